/- What the proof of the root text leans on, part 1: the layer, plain facts and walks. No statement of the seat is proved in this text. -/
import Derived.ChangeSame
import Derived.Deep.Slices
import Derived.Handed
import Derived.HandedShaped
import Derived.LaidHandle
import Derived.LaidLaws
import Derived.LaidMore
import Derived.Lay
import Derived.Lib.LaidU8
import Derived.OpenShut
import Derived.ProofKit
import Derived.Shelf.Vars
import Derived.SizedLaws
import Derived.Stop.Joined
import Derived.Test.YtdcfcfhmkfkgmaaGreatDoorRows
import Derived.WideKeyArgs
import Derived.Test.YtdcfcfhmkfkgmaaGreatDoorPd6
namespace Go.Proofs.YtdcfcfhmkfkgmaaGreatDoor
open Go.K Go.Stn Go.Pln Go.RowKit
theorem zyi  (w:World):(Instr.buildSlice 35 0 #[]).run Tryz.prog w=.ok (.slice (some ⟨w.heap.size,0,none⟩) 0 0) (w.alloc (.cells (([]:List (Int)).flatMap Go.Stn.encI).toArray 3)):=by kernel_rfl
set_option maxRecDepth 100000 in
set_option maxHeartbeats 1000000 in
theorem zya (a:Option Addr) (cap:Nat) (l:List Int) (w:World) (hl:Has w (Ints a l)) (hs:zaP l.length) :
  Calls Tryz.prog 69 #[.slice a l.length cap] w (zcU (fun z:Option Addr×Nat=>.slice z.1 l.length z.2) (fun z=>Row z.1 1 z.2 3 Go.Stn.encI l) w):=by
 refine zan (vs:=[_]) Tryz.func69 rfl rfl (Nat.le_of_ble_eq_true rfl) ?_
 refine zac ?_
 refine zaa ?_
 refine gk_y rfl rfl (zad rfl) ?_
 refine zag (zae (T':=[(0,_),(2,_)]) ⟨rfl,rfl,trivial⟩ ?_)
 refine zac ?_
 refine zac ?_
 refine zaa ?_
 refine gk_y rfl rfl (zaf rfl) ?_
 refine gk_y rfl rfl (zuU (Tryz.underlying35) rfl rfl) ?_
 refine zag (zae (T':=[(0,_),(2,_),(4,_)]) ⟨rfl,rfl,rfl,trivial⟩ ?_)
 refine zap rfl (fun hc4=>?_) (fun hc4=>?_)
 ·have hL:l=[]:=zrM hl hc4
  subst hL
  refine zbB 3 Go.Stn.encI 1 ?_
  refine zac ?_
  refine zaa ?_
  refine gk_y rfl rfl (zad rfl) ?_
  refine zag (zae (T':=[(0,_),(2,_)]) ⟨rfl,rfl,trivial⟩ ?_)
  refine zaw ?_
  refine zbd (none,0) 0 (zaC rfl (zau rfl)) ?_ rfl
  rfl
 ·
  refine zaq ?_
  refine zac ?_
  refine zaa ?_
  refine zaG rfl rfl (zaD rfl (zyi) Go.Stn.encI_ok rfl) fun b5=>?_
  refine gk_y rfl rfl (zaf rfl) ?_
  refine zb4 (m:=l) 0 af35 Go.Stn.encI_ok rfl rfl rfl rfl (fun _ hw=>(Rd.has (Has.rd hl) hw)) (by unfold zaP at hs; simp only [List.length_nil]; omega) (by unfold zaP at hs; simp only [List.length_nil,maxLen]; omega) fun a7 c7=>?_
  refine gk_y rfl rfl (zad rfl) ?_
  refine zag (zae (T':=[(2,_)]) ⟨rfl,trivial⟩ ?_)
  refine zaw ?_
  refine zbd (a7,c7) 0 (zaC rfl (zau rfl)) ?_ rfl
  rfl
end Go.Proofs.YtdcfcfhmkfkgmaaGreatDoor
namespace Go.Proofs.YtdcfcfhmkfkgmaaGreatDoor
open Go.K Go.Stn Go.Pln Go.RowKit
theorem en69:En Tryz.prog 69:=za7 Tryz.func69 (by kernel_rfl) (by kernel_rfl)
theorem zxT {S:List ShC} {V:List WlC} {n:ByteArray} (h1:∀ z∈V,zaP z.s.opens.length) (h2:∀ z∈S,zaP z.s.heights.length):zaP (zaN S V n).s.opens.length∧zaP (zar S V n).s.heights.length:=by
 constructor
 ·unfold zaN zhq
  split
  ·split
   ·rename_i hk
    exact h1 _ (za0 (by have:=zky hk; omega))
   ·decide
  ·decide
 ·unfold zar
  split
  ·exact zrs (P:=fun z=>zaP z.s.heights.length) h2 (by decide)
  ·decide
set_option maxRecDepth 100000 in
set_option maxHeartbeats 16000000 in
theorem zyh (a:Option Addr) (cap:Nat) (S:List ShC) (b:Option Addr) (bcap:Nat) (V:List WlC) (n:ByteArray) (w:World) (hl:Has w (zaW a 20 zbH S)) (hs:zaP S.length) (hcS:S.length≤cap) (hlw:Has w (zaW b 4 zbS V)) (hsw:zaP V.length) (hsh:∀ z∈S,Has w (Ints z.a z.s.heights)) (hss:∀ z∈S,zaP z.s.heights.length) (hwo:∀ z∈V,Has w (zaW z.a 5 zba z.s.opens)) (hsv:∀ z∈V,zaP z.s.opens.length) (hcp:∀ z∈V,z.s.opens.length≤z.cap) (hkn:∀ z∈V,∀ o∈z.s.opens,Knd o) :
  Calls Tryz.prog 36 #[.agg #[.slice a S.length cap,.slice b V.length bcap],.string n] w (zcU (fun z:(Option Addr×Nat)×(Option Addr×Nat)=>.tuple #[.agg (zbS ⟨(zaN S V n).s,z.1.1,z.1.2⟩).toArray,.agg (zbH ⟨(zar S V n).s,z.2.1,z.2.2⟩).toArray,.int .i64 (zb6 S V n)]) (fun z=>SepR [Row z.1.1 5 z.1.2 98 zba (zaN S V n).s.opens,Row z.2.1 1 z.2.2 3 Go.Stn.encI (zar S V n).s.heights]) w):=by
 obtain⟨hsvw,hsss⟩:=zxT (n:=n) hsv hss
 refine zan (vs:=[_,_]) Tryz.func36 rfl rfl (Nat.le_of_ble_eq_true rfl) ?_
 refine zac ?_
 refine zaa ?_
 refine zaG rfl rfl (za3 (vs:=[_,_]) rfl rfl) fun b2=>?_
 refine zaG rfl rfl (zaL tf94 (zs:=[_,_,_,_]) rfl) fun b4=>?_
 refine zaG rfl rfl (zaL tf41 (zs:=[_,_,_,_,_,_,_,_,_,_,_,_,_,_,_,_,_,_,_,_]) rfl) fun b5=>?_
 refine gk_y rfl rfl (zad rfl) ?_
 refine zag (zae (T':=[(1,_),(2,_),(4,_),(5,_),(6,_)]) ⟨rfl,rfl,rfl,rfl,rfl,trivial⟩ ?_)
 refine zac ?_
 refine zaa ?_
 refine gk_y rfl rfl (zat 2 tf31 rfl rfl (vs:=[_,_]) rfl rfl) ?_
 refine gk_y rfl rfl (zaf rfl) ?_
 refine gk_y rfl rfl (zaJ en62 rfl (fun w hw=>zm9 _ _ S _ _ V n w (Rd.has (Has.rd hl) hw) hs hcS (Rd.has (Has.rd hlw) hw) hsw (fun z hz=>(Rd.has (Has.rd (hsh z hz)) hw)) hss (fun z hz=>(Rd.has (Has.rd (hwo z hz)) hw)) hsv hcp hkn)) ?_
 refine gk_y rfl rfl (zaf rfl) ?_
 refine gk_y rfl rfl (zaB rfl rfl) ?_
 refine gk_y rfl rfl (zaB rfl rfl) ?_
 refine gk_y rfl rfl (zaB rfl rfl) ?_
 refine zaG rfl rfl (zaL tf94 (zs:=[_,_,_,_]) rfl) fun b7=>?_
 refine zaG rfl rfl (zaL tf41 (zs:=[_,_,_,_,_,_,_,_,_,_,_,_,_,_,_,_,_,_,_,_]) rfl) fun b8=>?_
 refine zaA 1 tf94 rfl rfl (vs:=[_,_,_,_]) rfl rfl rfl rfl rfl ?_
 refine zbz 0 tf41 rfl rfl (vs:=[_,_,_,_,_,_,_,_,_,_,_,_,_,_,_,_,_,_,_,_]) rfl rfl rfl rfl rfl ?_
 refine gk_y rfl rfl (zad rfl) ?_
 refine zag (zae (T':=[(4,_),(5,_),(6,_),(7,_),(8,_),(9,_)]) ⟨rfl,rfl,rfl,rfl,rfl,rfl,trivial⟩ ?_)
 refine zac ?_
 refine zbb 7 (fun _=>mixed) (by kernel_rfl) ?_
 refine ph_y (zab zhe rfl) ?_
 refine ph_y (zah 1 tf92 rfl rfl rfl) ?_
 refine zmr (zbm en68 rfl (fun w hw=>zrd _ _ (zaN S V n).s.opens w (Rd.has (Has.rd (zfL hwo)) hw) (hsvw))) ?_
 refine ph_y (zab zia rfl) ?_
 refine ph_y (zah 0 tf35 rfl rfl rfl) ?_
 refine zmr (fun p19=>zbm en69 rfl (fun w hw=>zya _ _ (zar S V n).s.heights w (Rd.has (Has.rd (zhG hsh)) hw) (hsss))) ?_
 refine ph_y (fun p19=>zab zhe rfl) ?_
 intro p22
 intro p19
 refine zae (T':=[(4,_),(5,_),(6,_),(7,_),(8,_),(9,_),(19,_),(22,_),(23,_)]) ⟨rfl,rfl,rfl,rfl,rfl,rfl,rfl,rfl,rfl,trivial⟩ ?_
 refine zaA 3 tf92 rfl rfl (vs:=[_]) rfl rfl rfl rfl rfl ?_
 refine gk_y rfl rfl (zab zia rfl) ?_
 refine zaA 2 tf35 rfl rfl (vs:=[_]) rfl rfl rfl rfl rfl ?_
 refine zag (zae (T':=[(4,_),(5,_),(6,_),(7,_),(8,_),(9,_)]) ⟨rfl,rfl,rfl,rfl,rfl,rfl,trivial⟩ ?_)
 refine zac ?_
 refine zao 4 rfl ?_
 refine zao 5 rfl ?_
 refine zpM [Box b4 [.string ⟨#[]⟩,.string ⟨#[]⟩,.int .i64 0,.slice none 0 0] 94,Box b5 [.string ⟨#[]⟩,.int .i64 0,.int .i64 0,.int .i64 0,.int .i64 0,.slice none 0 0,.int .i64 0,.int .i64 0,.int .i64 0,.int .i64 0,.int .i64 0,.int .i64 0,.int .i64 0,.int .u8 0,.int .i64 0,.int .i64 0,.int .i64 0,.int .i64 0,.int .i64 0,.int .i64 0] 41] (ch []) 1000 6 [0,0,0,1,11,31] rfl (fun _=>mixed) (by kernel_rfl) (zjK _ trivial) ?_
 refine zdq (fun ρ=>zat 3 tf94 rfl rfl (vs:=[_,_,_,_]) rfl rfl) (fun ρ ρ' h=>by rfl) ?_
 refine zdq (fun ρ=>zat 2 tf41 rfl rfl (vs:=[_,_,_,_,_,_,_,_,_,_,_,_,_,_,_,_,_,_,_,_]) rfl rfl) (fun ρ ρ' h=>by rfl) ?_
 refine zdq (fun ρ=>zaf rfl) (fun ρ ρ' h=>by rfl) ?_
 refine zjr (R:=fun ρ=>Box b4 [.string ⟨#[]⟩,.string ⟨#[]⟩,.int .i64 0,.slice none 0 0] 94) (A:=fun ρ=>Box b4 [.string (zaN S V n).s.name,.string (zaN S V n).s.sheet,.int .i64 ((zaN S V n).s.length),.slice p19.1 (zaN S V n).s.opens.length p19.2] 94) 1000 rfl (by kernel_rfl) (fun _=>by kernel_rfl) (fun ρ=>zex tf94 rfl rfl (vs:=[_,_,_,_]) rfl rfl rfl rfl rfl) (fun ρ ρ' h=>by rfl) ?_
 refine zjr (R:=fun ρ=>Box b5 [.string ⟨#[]⟩,.int .i64 0,.int .i64 0,.int .i64 0,.int .i64 0,.slice none 0 0,.int .i64 0,.int .i64 0,.int .i64 0,.int .i64 0,.int .i64 0,.int .i64 0,.int .i64 0,.int .u8 0,.int .i64 0,.int .i64 0,.int .i64 0,.int .i64 0,.int .i64 0,.int .i64 0] 41) (A:=fun ρ=>Box b5 [.string (zar S V n).s.name,.int .i64 ((zar S V n).s.base),.int .i64 ((zar S V n).s.batter),.int .i64 ((zar S V n).s.height),.int .i64 ((zar S V n).s.skin),.slice p22.1 (zar S V n).s.heights.length p22.2,.int .i64 ((zar S V n).s.least),.int .i64 ((zar S V n).s.lap),.int .i64 ((zar S V n).s.run),.int .i64 ((zar S V n).s.every),.int .i64 ((zar S V n).s.at_),.int .i64 ((zar S V n).s.footing),.int .i64 ((zar S V n).s.spread),.int .u8 (zar S V n).s.cope,.int .i64 ((zar S V n).s.tall),.int .i64 ((zar S V n).s.short),.int .i64 ((zar S V n).s.thick),.int .i64 ((zar S V n).s.low),.int .i64 ((zar S V n).s.high),.int .i64 ((zar S V n).s.rood)] 41) 1001 rfl (by kernel_rfl) (fun _=>by kernel_rfl) (fun ρ=>zex tf41 rfl rfl (vs:=[_,_,_,_,_,_,_,_,_,_,_,_,_,_,_,_,_,_,_,_]) rfl rfl rfl rfl rfl) (fun ρ ρ' h=>by rfl) ?_
 refine zdq (fun ρ=>zad rfl) (fun ρ ρ' h=>by rfl) ?_
 refine fun ρ=>zag (zpT (T':=[(4,.pointer (some ⟨b4,0,none⟩)),(5,.pointer (some ⟨b5,0,none⟩)),(6,.int .i64 (zb6 S V n))]) (H':=[Box b4 [.string (zaN S V n).s.name,.string (zaN S V n).s.sheet,.int .i64 ((zaN S V n).s.length),.slice p19.1 (zaN S V n).s.opens.length p19.2] 94,Box b5 [.string (zar S V n).s.name,.int .i64 ((zar S V n).s.base),.int .i64 ((zar S V n).s.batter),.int .i64 ((zar S V n).s.height),.int .i64 ((zar S V n).s.skin),.slice p22.1 (zar S V n).s.heights.length p22.2,.int .i64 ((zar S V n).s.least),.int .i64 ((zar S V n).s.lap),.int .i64 ((zar S V n).s.run),.int .i64 ((zar S V n).s.every),.int .i64 ((zar S V n).s.at_),.int .i64 ((zar S V n).s.footing),.int .i64 ((zar S V n).s.spread),.int .u8 (zar S V n).s.cope,.int .i64 ((zar S V n).s.tall),.int .i64 ((zar S V n).s.short),.int .i64 ((zar S V n).s.thick),.int .i64 ((zar S V n).s.low),.int .i64 ((zar S V n).s.high),.int .i64 ((zar S V n).s.rood)] 41,Row p19.1 5 p19.2 98 zba (zaN S V n).s.opens,Row p22.1 1 p22.2 3 Go.Stn.encI (zar S V n).s.heights,Box b8 [.string (zar S V n).s.name,.int .i64 ((zar S V n).s.base),.int .i64 ((zar S V n).s.batter),.int .i64 ((zar S V n).s.height),.int .i64 ((zar S V n).s.skin),.slice p22.1 (zar S V n).s.heights.length p22.2,.int .i64 ((zar S V n).s.least),.int .i64 ((zar S V n).s.lap),.int .i64 ((zar S V n).s.run),.int .i64 ((zar S V n).s.every),.int .i64 ((zar S V n).s.at_),.int .i64 ((zar S V n).s.footing),.int .i64 ((zar S V n).s.spread),.int .u8 (zar S V n).s.cope,.int .i64 ((zar S V n).s.tall),.int .i64 ((zar S V n).s.short),.int .i64 ((zar S V n).s.thick),.int .i64 ((zar S V n).s.low),.int .i64 ((zar S V n).s.high),.int .i64 ((zar S V n).s.rood)] 41,Box b7 [.string (zaN S V n).s.name,.string (zaN S V n).s.sheet,.int .i64 ((zaN S V n).s.length),.slice p19.1 (zaN S V n).s.opens.length p19.2] 94,Box b2 [.slice a S.length cap,.slice b V.length bcap] 31]) ⟨rfl,rfl,rfl,trivial⟩ rfl ?_)
 refine zao 3 rfl ?_
 refine zao 3 rfl ?_
 refine zbT 2 ?_
 refine zaw ?_
 refine zbd ((p19.1,p19.2),(p22.1,p22.2)) 0 (zdh rfl (zbU (i:=1) (vs:=[_,_,_,_]) tf94 rfl rfl rfl rfl) (zbU (i:=2) (vs:=[.string (zar S V n).s.name,.int .i64 ((zar S V n).s.base),.int .i64 ((zar S V n).s.batter),.int .i64 ((zar S V n).s.height),.int .i64 ((zar S V n).s.skin),.slice p22.1 (zar S V n).s.heights.length p22.2,.int .i64 ((zar S V n).s.least),.int .i64 ((zar S V n).s.lap),.int .i64 ((zar S V n).s.run),.int .i64 ((zar S V n).s.every),.int .i64 ((zar S V n).s.at_),.int .i64 ((zar S V n).s.footing),.int .i64 ((zar S V n).s.spread),.int .u8 (zar S V n).s.cope,.int .i64 ((zar S V n).s.tall),.int .i64 ((zar S V n).s.short),.int .i64 ((zar S V n).s.thick),.int .i64 ((zar S V n).s.low),.int .i64 ((zar S V n).s.high),.int .i64 ((zar S V n).s.rood)]) tf41 rfl rfl rfl rfl) (zau rfl)) ?_ rfl
 rfl
end Go.Proofs.YtdcfcfhmkfkgmaaGreatDoor
namespace Go.Pln
open Go Go.K Go.RowKit Go.Stn
def cntI (f:Int→Bool) (a:Int):Nat→Int
 | 0=>0
 | n+1=>cntI f a n+if f (a+n)=true then 1 else 0
theorem zxL {f g:Int→Bool} {a:Int}:∀ {n:Nat},(∀ x,a≤x→x < a+n→f x=g x)→cntI f a n=cntI g a n
 | 0,_=>rfl
 | n+1,h=>by
  unfold cntI
  rw [zxL (n:=n) fun x h1 h2=>h x h1 (by omega),h (a+n) (by omega) (by omega)]
theorem zx2 (f:Int→Bool) (a:Int) (m:Nat):∀ n:Nat,cntI f a (m+n)=cntI f a m+cntI f (a+m) n
 | 0=>by unfold cntI; simp
 | n+1=>by
  rw [←Nat.add_assoc]
  show cntI f a (m+n)+_=cntI f a m+(cntI f (a+m) n+_)
  rw [zx2 f a m n,show a+((m+n:Nat):Int)=a+m+n from by omega]
  omega
theorem zxK {f:Int→Bool} {a:Int}:∀ {n:Nat},(∀ x,a≤x→x < a+n→f x=true)→cntI f a n=n
 | 0,_=>rfl
 | n+1,h=>by
  unfold cntI
  rw [zxK (n:=n) fun x h1 h2=>h x h1 (by omega),if_pos (h (a+n) (by omega) (by omega))]
  omega
theorem zxI {f:Int→Bool} {a:Int}:∀ {n:Nat},(∀ x,a≤x→x < a+n→f x=false)→cntI f a n=0
 | 0,_=>rfl
 | n+1,h=>by
  unfold cntI
  rw [zxI (n:=n) fun x h1 h2=>h x h1 (by omega),if_neg (by rw [h (a+n) (by omega) (by omega)]; exact Bool.false_ne_true)]
  omega
theorem zxJ (f:Int→Bool) {a b c:Int} (h1:a≤b) (h2:b≤c):cntI f a (c - a).toNat=cntI f a (b - a).toNat+cntI f b (c - b).toNat:=by
 have:=zx2 f a (b - a).toNat (c - b).toNat
 rw [show(b - a).toNat+(c - b).toNat=(c - a).toNat from by omega,show a+((b - a).toNat:Int)=b from by omega] at this
 exact this
theorem zxZ {f:Int→Bool} {hi:Int}:∀ {lo:Int} {m:List Crs},lo≤hi→Runs f hi lo m→lenL m=cntI f lo (hi - lo).toNat
 | lo,[],h,hr=>by
  rw [zxI fun x h1 h2=>hr x h1 (by omega)]; rfl
 | lo,c :: r,h,⟨a1,a2,a3,a4,a5,_,a7⟩=>by
  have ih:=zxZ a3 a7
  have e:lenL (c :: r)=(c.to - c.frm)+lenL r:=by unfold lenL; rw [List.map_cons,List.sum_cons]
  rw [e,ih,zxJ f a1 (show c.frm≤hi by omega),zxJ f (show c.frm≤c.to by omega) a3,zxI fun x h1 h2=>a4 x h1 (by omega),zxK fun x h1 h2=>a5 x h1 (by omega)]
  omega
def zxY (o q:Opn):Prop:=o.at_+o.width≤q.at_∨q.at_+q.width≤o.at_
def sumW (l:List Opn):Int:=(l.map (·.width)).sum
theorem zxR (o:Opn) (r:List Opn) (x:Int):zcH (o :: r) x=(!(decide (o.at_≤x)&&decide (x < o.at_+o.width))&&zcH r x):=rfl
theorem zxW {L:Int} (hL:0≤L):∀ {l:List Opn},InW l L→l.Pairwise zxY→cntI (zcH l) 0 (L - 0).toNat+sumW l=L
 | [],_,_=>by
  rw [zxK (f:=zcH []) fun _ _ _=>rfl]
  show((L - 0).toNat:Int)+0=L
  omega
 | o :: r,hw,hp=>by
  obtain⟨hp1,hp2⟩:=List.pairwise_cons.1 hp
  have ih:=zxW hL (fun q hq=>hw q (List.mem_cons_of_mem _ hq)) hp2
  obtain⟨w1,w2,w3⟩:=hw o (List.mem_cons_self ..)
  have e:sumW (o :: r)=o.width+sumW r:=by unfold sumW; rw [List.map_cons,List.sum_cons]
  have hin:∀ x,o.at_≤x→x < o.at_+o.width→zcH r x=true:=fun x h1 h2=>zdU.2 fun q hq hx=>by
   have:=hp1 q hq
   unfold zxY at this
   omega
  have hout:∀ x,¬ (o.at_≤x∧x < o.at_+o.width)→zcH (o :: r) x=zcH r x:=fun x hx=>by
   rw [zxR,show(decide (o.at_≤x)&&decide (x < o.at_+o.width))=false by simp only [Bool.and_eq_false_iff,decide_eq_false_iff_not]; omega]
   rfl
  have hno:∀ x,o.at_≤x→x < o.at_+o.width→zcH (o :: r) x=false:=fun x h1 h2=>by
   rw [zxR,decide_eq_true h1,decide_eq_true h2]; rfl
  rw [zxJ (zcH (o :: r)) w1 (show o.at_≤L by omega),zxJ (zcH (o :: r)) (show o.at_≤o.at_+o.width by omega) w3,
   zxL (f:=zcH (o :: r)) (g:=zcH r) (a:=0) fun x h1 h2=>hout x (by omega),zxI (f:=zcH (o :: r)) (a:=o.at_) fun x h1 h2=>hno x h1 (by omega),zxL (f:=zcH (o :: r)) (g:=zcH r) (a:=o.at_+o.width) fun x h1 h2=>hout x (by omega),e]
  rw [zxJ (zcH r) w1 (show o.at_≤L by omega),zxJ (zcH r) (show o.at_≤o.at_+o.width by omega) w3,zxK (f:=zcH r) (a:=o.at_) fun x h1 h2=>hin x h1 (by omega)] at ih
  omega
theorem zx1 {v:Wll} {top:Int} (h:zd1 top v=true):v.opens.Pairwise fun q o=>zea o q=false:=by
 rw [zgN,Bool.and_eq_true] at h
 refine List.pairwise_iff_getElem.2 fun i j hi hj hij=>?_
 have:=zdf.1 h.2 j hj
 unfold zcI at this
 rw [Bool.and_eq_true,Bool.not_eq_true',List.getD_eq_getElem?_getD,List.getElem?_eq_getElem hj,Option.getD_some,List.any_eq_false] at this
 have hm:v.opens[i]∈v.opens.take j:=List.mem_take_iff_getElem.2 ⟨i,by omega,rfl⟩
 simpa using this.2 _ hm
theorem zx8 {v:Wll} {h:Int} (hw:zd1 h v=true):(v.opens.filter (zj4 h)).Pairwise zxY:=by
 have hF:=zoC hw
 refine List.Pairwise.imp_of_mem ?_ ((zx1 hw).filter _)
 intro q o hq ho hm
 obtain⟨q1,q2⟩:=List.mem_filter.1 hq
 obtain⟨o1,o2⟩:=List.mem_filter.1 ho
 have fq:=(hF.fit q q1).h; have fo:=(hF.fit o o1).h
 have e1:q.frm+q.high=h:=of_decide_eq_true q2
 have e2:o.frm+o.high=h:=of_decide_eq_true o2
 unfold zea at hm
 simp only [Bool.and_eq_false_iff,decide_eq_false_iff_not] at hm
 unfold zxY
 omega
theorem zx9 {v:Wll} {h:Int} {s:Sht} (hw:zd1 h v=true) (hs:s.height=h):lenL (zbK v s)+sumW (v.opens.filter (zj4 h))=v.length:=by
 subst hs
 have hF:=zoC hw
 have hl:=hF.len
 have hr:=zdK hF (zj4 s.height)
 rw [show zbK v s=zcW (zj4 s.height) v from rfl,zxZ (by omega) hr]
 exact zxW (by omega) (hF.inW _) (zx8 hw)
def CpCh (t hi:Int):Int→List Cpe→Prop
 | lo,[]=>lo≤hi
 | lo,k :: r=>lo≤k.at_∧1≤k.width∧k.width≤t∧CpCh t hi (k.at_+k.width) r
def sumC (l:List Cpe):Int:=(l.map (·.width)).sum
theorem zxS (k:Cpe) (r:List Cpe):sumC (k :: r)=k.width+sumC r:=by unfold sumC; rw [List.map_cons,List.sum_cons]
theorem zxN (l r:List Cpe):sumC (l++r)=sumC l+sumC r:=by unfold sumC; rw [List.map_append,List.sum_append]
theorem zxM {t mid hi:Int}:∀ {lo:Int} {l r:List Cpe},CpCh t mid lo l→CpCh t hi mid r→CpCh t hi lo (l++r)
 | lo,[],r,h1,h2=>by
  cases r with
  | nil=>exact Int.le_trans h1 h2
  | cons k r=>exact⟨Int.le_trans h1 h2.1,h2.2⟩
 | _,k :: l,r,h1,h2=>⟨h1.1,h1.2.1,h1.2.2.1,zxM h1.2.2.2 h2⟩
theorem zyd {t to:Int} (ht:1≤t):∀ (f:Nat) {lo x:Int} (h o:Int),lo≤to→lo≤x→CpCh t to lo (copF t to f x h o)
 | 0,_,_,_,_,h1,_=>h1
 | f+1,lo,x,h,o,h1,h2=>by
  unfold copF
  by_cases hx:x < to
  ·rw [if_pos hx]
   exact⟨h2,by show 1≤min t (to - x); omega,by show min t (to - x)≤t; omega,zyd ht f o h (by show x+min t (to - x)≤to; omega) (by show x+min t (to - x)≤x+t; omega)⟩
  ·rw [if_neg hx]; exact h1
theorem zx3 {t to:Int} (ht:1≤t):∀ (f:Nat) (x h o:Int),(to - x).toNat≤f→sumC (copF t to f x h o)=max (to - x) 0
 | 0,x,h,o,hf=>by
  show(0:Int)=_
  omega
 | f+1,x,h,o,hf=>by
  unfold copF
  by_cases hx:x < to
  ·rw [if_pos hx,zxS,zx3 ht f (x+t) o h (by omega)]
   show min t (to - x)+_=_
   omega
  ·rw [if_neg hx]
   show(0:Int)=_
   omega
theorem zxP {s:Sht} (ht:1≤s.thick) {f:Int→Bool} {hi:Int}:∀ {lo:Int} {bs:List Crs},lo≤hi→Runs f hi lo bs→CpCh s.thick hi lo (zcP s bs)∧sumC (zcP s bs)=lenL bs
 | _,[],h,_=>⟨h,rfl⟩
 | lo,b :: r,h,⟨a1,a2,a3,_,_,_,a7⟩=>by
  obtain⟨i1,i2⟩:=zxP ht a3 a7
  rw [zhS]
  refine⟨zxM (zyd ht _ _ _ (by omega) a1) i1,?_⟩
  rw [zxN,i2]
  have e:lenL (b :: r)=(b.to - b.frm)+lenL r:=by unfold lenL; rw [List.map_cons,List.sum_cons]
  have:=zx3 (to:=b.to) ht (b.to - b.frm).toNat b.frm s.tall (zdD s) (Nat.le_refl _)
  unfold copB
  rw [this,e]
  omega
theorem zx5 {t hi:Int}:∀ {lo:Int} {l:List Cpe},CpCh t hi lo l→∀ (i:Nat) (hi':i < l.length),(1≤l[i].width∧l[i].width≤t)∧(∀ h:i+1 < l.length,l[i].at_+l[i].width≤l[i+1].at_)
 | _,[],_,i,h=>absurd h (by simp)
 | _,k :: r,hc,0,_=>⟨⟨hc.2.1,hc.2.2.1⟩,fun h=>by
  match r,hc,h with
  | k2 :: r2,hc,_=>exact hc.2.2.2.1⟩
 | _,k :: r,hc,i+1,h=>by
  obtain⟨h1,h2⟩:=zx5 hc.2.2.2 i (by simpa using h)
  refine⟨h1,fun h3=>h2 (by simpa using h3)⟩
theorem zye {t to:Int} (ht:1≤t) {k:Cpe}:∀ {f:Nat} {x h o:Int},k∈copF t to f x h o→x≤k.at_∧k.at_+k.width≤to∧1≤k.width
 | 0,_,_,_,hk=>by cases hk
 | f+1,x,h,o,hk=>by
  unfold copF at hk
  by_cases hx:x < to
  ·rw [if_pos hx] at hk
   rcases List.mem_cons.1 hk with rfl | hk
   ·show x≤x∧x+min t (to - x)≤to∧1≤min t (to - x)
    omega
   ·have:=zye ht hk
    omega
  ·rw [if_neg hx] at hk; cases hk
theorem zxX {s:Sht} (ht:1≤s.thick) {bs:List Crs} {k:Cpe} (hk:k∈zcP s bs):∃ b∈bs,b.frm≤k.at_∧k.at_+k.width≤b.to∧1≤k.width:=by
 unfold zcP at hk
 obtain⟨b,hb,h⟩:=List.mem_flatMap.1 hk
 exact⟨b,hb,zye ht h⟩
theorem zx4 {v:Wll} {s:Sht} (hF:WallF v s.height) (ht:1≤s.thick) {k:Cpe} (hk:k∈zcP s (zbK v s)) {o:Opn} (ho:o∈v.opens) (h:o.frm+o.high=s.height):¬ (k.at_ < o.at_+o.width∧o.at_ < k.at_+k.width):=fun hx=>by
 obtain⟨b,hb,h1,h2,h3⟩:=zxX ht hk
 have hr:=(zeK (zdK hF (zj4 s.height)) b hb).2.2.2
 have hw:=(hF.fit o ho).w
 have ho2:o∈v.opens.filter (zj4 s.height):=List.mem_filter.2 ⟨ho,decide_eq_true h⟩
 have:=znj (x:=max k.at_ o.at_) ho2 (by omega)
 rw [hr (max k.at_ o.at_) (by omega) (by omega)] at this
 cases this
theorem zxV {bs:List Crs} {L e:Int} (he:1≤e):∀ {f:Nat} {x t:Int},t∈thrF bs L e f x→x≤t∧(t - x) % e=0∧thrT bs t=true
 | 0,_,_,h=>by cases h
 | f+1,x,t,h=>by
  unfold thrF at h
  have step:t∈thrF bs L e f (x+e)→x≤t∧(t - x) % e=0∧thrT bs t=true:=fun h=>by
   obtain⟨h1,h2,h3⟩:=zxV he h
   refine⟨by omega,?_,h3⟩
   rw [show t - x=(t - (x+e))+e from by omega,Int.add_emod_right]; exact h2
  by_cases hx:x < L
  ·rw [if_pos hx] at h
   by_cases hb:thrT bs x=true
   ·rw [if_pos hb] at h
    rcases List.mem_cons.1 h with rfl | h
    ·exact⟨Int.le_refl _,by rw [Int.sub_self]; exact Int.zero_emod _,hb⟩
    ·exact step h
   ·rw [if_neg hb] at h; exact step h
  ·rw [if_neg hx] at h; cases h
theorem zxQ {bs:List Crs} {L e:Int} (he:1≤e):∀ (f:Nat) (x:Int),(thrF bs L e f x).Pairwise fun a b=>a < b∧(b - a) % e=0
 | 0,_=>List.Pairwise.nil
 | f+1,x=>by
  unfold thrF
  by_cases hx:x < L
  ·rw [if_pos hx]
   by_cases hb:thrT bs x=true
   ·rw [if_pos hb]
    refine List.pairwise_cons.2 ⟨fun t ht=>?_,zxQ he f _⟩
    obtain⟨h1,h2,_⟩:=zxV he ht
    refine⟨by omega,?_⟩
    rw [show t - x=(t - (x+e))+e from by omega,Int.add_emod_right]; exact h2
   ·rw [if_neg hb]; exact zxQ he f _
  ·rw [if_neg hx]; exact List.Pairwise.nil
theorem zyf {bs:List Crs} {t:Int} (h:thrT bs t=true):∃ b∈bs,b.frm < t∧t < b.to:=by
 unfold thrT at h
 obtain⟨b,hb,h⟩:=List.any_eq_true.1 h
 simp only [Bool.and_eq_true,decide_eq_true_eq] at h
 exact⟨b,hb,h⟩
theorem zyc {v:Wll} {top:Int} {p:Opn→Bool} (hF:WallF v top) {t:Int} (h:thrT (zcW p v) t=true):(0 < t∧t < v.length)∧∀ o∈v.opens,p o=true→¬ (o.at_≤t∧t≤o.at_+o.width):=by
 obtain⟨b,hb,h1,h2⟩:=zyf h
 obtain⟨r1,r2,r3,r4⟩:=zeK (zdK hF p) b hb
 refine⟨by omega,fun o ho hp hx=>?_⟩
 have hw:=(hF.fit o ho).w
 have ho2:o∈v.opens.filter p:=List.mem_filter.2 ⟨ho,hp⟩
 rcases Int.lt_or_le t (o.at_+o.width) with hlt | hge
 ·have:=znj (x:=t) ho2 ⟨hx.1,hlt⟩
  rw [r4 t (by omega) (by omega)] at this
  cases this
 ·have:=znj (x:=t - 1) ho2 (by omega)
  rw [r4 (t - 1) (by omega) (by omega)] at this
  cases this
end Go.Pln
namespace Go.Pln
open Go Go.K Go.RowKit Go.Stn
theorem zip {α:Type} [Inhabited α] {l:List α} {i:Nat} (h:i < l.length):l.getD i default=l[i]:=by rw [List.getD_eq_getElem?_getD,List.getElem?_eq_getElem h]; rfl
theorem zxO {v:Wll} {s:Sht} (h:0 < (zbi v s).length):¬ s.cope=0∧zbi v s=zcP s (zbK v s):=by
 by_cases hc:s.cope=0
 ·rw [show zbi v s=[] from if_pos hc] at h; exact absurd h (by simp)
 ·exact⟨hc,if_neg hc⟩
theorem zyb {v:Wll} {s:Sht} (hF:WallF v s.height) (hs:za4 s=true) {i:Int} (h0:0≤i) (h1:i < ((zbi v s).length:Int)) :
  (1≤((zbi v s).getD i.toNat default).width∧((zbi v s).getD i.toNat default).width≤s.thick∧s.thick≤1000)∧(0≤((zbi v s).getD i.toNat default).at_∧((zbi v s).getD i.toNat default).at_+((zbi v s).getD i.toNat default).width≤100000) ∧
  (0 < i→((zbi v s).getD (i - 1).toNat default).at_+((zbi v s).getD (i - 1).toNat default).width≤((zbi v s).getD i.toNat default).at_∧0≤((zbi v s).getD (i - 1).toNat default).at_∧1≤((zbi v s).getD (i - 1).toNat default).width):=by
 obtain⟨hc,e⟩:=zxO (v:=v) (s:=s) (by omega)
 obtain⟨ht,_,_⟩:=zlX hs hc
 have hl:=hF.len
 obtain⟨hch,_⟩:=zxP ht.1 (show(0:Int)≤v.length by omega) (zdK hF (zj4 s.height))
 have hin:∀ j:Nat,(hj:j < (zbi v s).length)→0≤((zbi v s)[j]).at_∧((zbi v s)[j]).at_+((zbi v s)[j]).width≤100000:=fun j hj=>by
  have hm:(zbi v s)[j]∈zcP s (zbK v s):=by rw [←e]; exact List.getElem_mem hj
  obtain⟨b,hb,b1,b2,b3⟩:=zxX ht.1 hm
  have:=zeK (zdK hF (zj4 s.height)) b hb
  omega
 have hat:∀ j:Nat,(hj:j < (zbi v s).length)→(1≤((zbi v s)[j]).width∧((zbi v s)[j]).width≤s.thick)∧∀ h:j+1 < (zbi v s).length,((zbi v s)[j]).at_+((zbi v s)[j]).width≤((zbi v s)[j+1]).at_:=by
  have:CpCh s.thick v.length 0 (zbi v s):=by rw [e]; exact hch
  exact fun j hj=>zx5 this j hj
 rw [zip (l:=zbi v s) (i:=i.toNat) (by omega)]
 have a1:=hat i.toNat (by omega); have a2:=hin i.toNat (by omega)
 refine⟨⟨a1.1.1,a1.1.2,ht.2⟩,a2,fun hp=>?_⟩
 rw [zip (l:=zbi v s) (i:=(i - 1).toNat) (by omega)]
 have b1:=hat (i - 1).toNat (by omega); have b2:=hin (i - 1).toNat (by omega)
 have b3:=b1.2 (by omega)
 have e2:(zbi v s)[(i - 1).toNat+1]=(zbi v s)[i.toNat]:=by congr 1; omega
 rw [e2] at b3
 exact⟨b3,b2.1,b1.1.1⟩
theorem zx6 {l:List Cpe} {i:Int} (h0:0≤i) (h1:i < (l.length:Int)):sumC (l.take (i+1).toNat)=sumC (l.take i.toNat)+(l.getD i.toNat default).width:=by
 rw [show(i+1).toNat=i.toNat+1 from by omega,List.take_add_one,List.getElem?_eq_getElem (by omega),zip (by omega),zxN]
 congr 1
 show sumC [_]=_
 rw [zxS]
 show _+(0:Int)=_
 omega
theorem zx7 {l:List Opn} {p:Opn→Bool} {i:Int} (h0:0≤i) (h1:i < (l.length:Int)):sumW ((l.take (i+1).toNat).filter p)=sumW ((l.take i.toNat).filter p)+if p (l.getD i.toNat default)=true then(l.getD i.toNat default).width else 0:=by
 rw [show(i+1).toNat=i.toNat+1 from by omega,List.take_add_one,List.getElem?_eq_getElem (by omega),zip (by omega),List.filter_append]
 unfold sumW
 rw [List.map_append,List.sum_append]
 congr 1
 show((List.filter p [l[i.toNat]]).map (·.width)).sum=_
 rw [List.filter_cons]
 split <;> simp
theorem zxU {v:Wll} {s:Sht} (hw:zd1 s.height v=true) (hs:za4 s=true) (hc:¬ s.cope=0):sumC (zbi v s)+sumW (v.opens.filter (zj4 s.height))=v.length:=by
 have hF:=zoC hw
 have hl:=hF.len
 obtain⟨ht,_,_⟩:=zlX hs hc
 have h2:sumC (zcP s (zbK v s))=lenL (zbK v s):=(zxP ht.1 (show(0:Int)≤v.length by omega) (zdK hF (zj4 s.height))).2
 rw [show zbi v s=zcP s (zbK v s) from if_neg hc,h2]
 exact zx9 hw rfl
theorem zx0 {v:Wll} {s:Sht} (hF:WallF v s.height) (hs:za4 s=true) {i:Int} (h0:0≤i) (h1:i < ((zbi v s).length:Int)) {o:Opn} (ho:o∈v.opens) (h:o.frm+o.high=s.height) :
  ¬ (((zbi v s).getD i.toNat default).at_ < o.at_+o.width∧o.at_ < ((zbi v s).getD i.toNat default).at_+((zbi v s).getD i.toNat default).width):=by
 obtain⟨hc,e⟩:=zxO (v:=v) (s:=s) (by omega)
 rw [zip (by omega)]
 exact zx4 hF (zlX hs hc).1.1 (by rw [←e]; exact List.getElem_mem (by omega)) ho h
theorem zyg {v:Wll} {s:Sht} (hF:WallF v s.height) (hs:za4 s=true) {i:Int} (h0:0≤i) (h1:i < ((thrL v s).length:Int)) :
  (0≤zi2 s∧zi2 s < ((zaj s).length:Int))∧1≤s.every∧(0 < (thrL v s).getD i.toNat default∧(thrL v s).getD i.toNat default < v.length) ∧
  (∀ o∈v.opens,zgu ((zaj s).getD (zi2 s).toNat default) o=true→¬ (o.at_≤(thrL v s).getD i.toNat default∧(thrL v s).getD i.toNat default≤o.at_+o.width)) ∧
  (0 < i→(thrL v s).getD (i - 1).toNat default < (thrL v s).getD i.toNat default∧Int.tmod ((thrL v s).getD i.toNat default - (thrL v s).getD (i - 1).toNat default) s.every=0∧0 < (thrL v s).getD (i - 1).toNat default):=by
 have hno:zi3 s=false:=by
  cases hq:zi3 s with
  | false=>rfl
  | true=>rw [show thrL v s=[] from if_pos hq] at h1; exact absurd h1 (by simp; omega)
 have hno2:=hno
 unfold zi3 at hno2
 rw [Bool.or_eq_false_iff,decide_eq_false_iff_not,decide_eq_false_iff_not] at hno2
 obtain⟨q1,q2⟩:=hno2
 have hev:=zjQ hs q1
 have e0:zi2 s=thrI s:=if_neg (by rw [hno]; exact Bool.false_ne_true)
 have e1:thrL v s=thrX (zbg v ((zaj s).getD (thrI s).toNat default)) v.length s.every (s.every.tdiv 2):=if_neg (by rw [hno]; exact Bool.false_ne_true)
 have hlt:thrI s < ((zaj s).length:Int)∨thrI s = -1:=findI_lt (fun c:Crs=>decide (s.at_≤c.frm)) (zaj s)
 have hmem:∀ j:Nat,(hj:j < (thrL v s).length)→thrT (zbg v ((zaj s).getD (thrI s).toNat default)) ((thrL v s)[j])=true:=fun j hj=>by
  have hm:(thrL v s)[j]∈thrX (zbg v ((zaj s).getD (thrI s).toNat default)) v.length s.every (s.every.tdiv 2):=by rw [←e1]; exact List.getElem_mem hj
  exact(zxV hev.1 hm).2.2
 have hfree:∀ j:Nat,(hj:j < (thrL v s).length)→(0 < (thrL v s)[j]∧(thrL v s)[j] < v.length)∧∀ o∈v.opens,zgu ((zaj s).getD (thrI s).toNat default) o=true→¬ (o.at_≤(thrL v s)[j]∧(thrL v s)[j]≤o.at_+o.width):=fun j hj=>zyc hF (hmem j hj)
 have hpair:(thrL v s).Pairwise fun a b=>a < b∧(b - a) % s.every=0:=by rw [e1]; exact zxQ hev.1 _ _
 rw [e0,zip (l:=thrL v s) (i:=i.toNat) (by omega)]
 have a1:=hfree i.toNat (by omega)
 refine⟨by omega,hev.1,a1.1,a1.2,fun hp=>?_⟩
 rw [zip (l:=thrL v s) (i:=(i - 1).toNat) (by omega)]
 have b1:=hfree (i - 1).toNat (by omega)
 have b2:=List.pairwise_iff_getElem.1 hpair (i - 1).toNat i.toNat (by omega) (by omega) (by omega)
 refine⟨b2.1,?_,b1.1.1⟩
 rw [Int.tmod_eq_emod_of_nonneg (by omega)]
 exact b2.2
end Go.Pln
namespace Go.Proofs.YtdcfcfhmkfkgmaaGreatDoor
open Go.K Go.Stn Go.Pln Go.RowKit
theorem zvX:FO Tryz.prog 87 0 0:=⟨by kernel_rfl⟩
theorem en12:En Tryz.prog 12:=za7 Tryz.func12 (by kernel_rfl) (by kernel_rfl)
theorem en13:En Tryz.prog 13:=za7 Tryz.func13 (by kernel_rfl) (by kernel_rfl)
theorem en14:En Tryz.prog 14:=za7 Tryz.func14 (by kernel_rfl) (by kernel_rfl)
theorem en15:En Tryz.prog 15:=za7 Tryz.func15 (by kernel_rfl) (by kernel_rfl)
theorem en36:En Tryz.prog 36:=za7 Tryz.func36 (by kernel_rfl) (by kernel_rfl)
set_option maxRecDepth 100000 in
set_option maxHeartbeats 32000000 in
theorem PlanCopes_c (a:Option Addr) (cap:Nat) (S:List ShC) (b:Option Addr) (bcap:Nat) (V:List WlC) (n:ByteArray) (w:World) (hl:Has w (zaW a 20 zbH S)) (hs:zaP S.length) (_hcS:S.length≤cap) (hlw:Has w (zaW b 4 zbS V)) (hsw0:V.length≤4398046511104) (hsh:∀ z∈S,Has w (Ints z.a z.s.heights)) (hwo:∀ z∈V,Has w (zaW z.a 5 zba z.s.opens)) (hcpw:∀ z∈V,z.s.opens.length≤z.cap) (hkn:∀ z∈V,∀ o∈z.s.opens,Knd o) (hfS:∀ z∈S,Fits z.s.name.size) (hfV:∀ z∈V,Fits z.s.name.size) (hco:∀ z∈S,0≤z.s.cope) (hmx:Has w (IntV 2)) (hcp:Has w (zaW (some ⟨0,0,none⟩) 1 encS zeZ)) (hop:Has w (zaW (some ⟨1,0,none⟩) 1 encS opensW)) :
  Calls Tryz.prog 9 #[.agg #[.slice a S.length cap,.slice b V.length bcap],.string n] w (Pure (.bool true) w):=by
 refine zan (vs:=[_,_]) Tryz.func9 rfl rfl (Nat.le_of_ble_eq_true rfl) ?_
 refine zac ?_
 refine zaa ?_
 refine zaG rfl rfl (za3 (vs:=[_,_]) rfl rfl) fun b2=>?_
 refine gk_y rfl rfl (zad rfl) ?_
 refine zag (zae (T':=[(1,_),(2,_),(4,_)]) ⟨rfl,rfl,rfl,trivial⟩ ?_)
 refine zac ?_
 refine zac ?_
 refine zaa ?_
 refine gk_y rfl rfl (zat 0 tf25 rfl rfl (vs:=[_,_]) rfl rfl) ?_
 refine gk_y rfl rfl (zaJ en12 rfl (fun w hw=>zuI _ _ S _ _ V w (Rd.has (Has.rd hl) hw) hs (Rd.has (Has.rd hlw) hw) hsw0 hfS)) ?_
 refine gk_y rfl rfl (zbR rfl) ?_
 refine gk_y rfl rfl (zaf rfl) ?_
 refine zai rfl rfl rfl rfl (fun hg28=>?_) (fun hg28=>?_)
 ·replace hg28:_=false:=hg28
  try rw [hg28]
  refine gk_y rfl rfl (zat 0 tf25 rfl rfl (vs:=[_,_]) rfl rfl) ?_
  have hsm:=zmC (S:=S) (V:=V) (by simpa using hg28)
  obtain⟨hss,hsv,hsw,hS1,hV1⟩:=zjv hsm
  refine zai rfl rfl rfl rfl (fun _=>?_) (fun h=>absurd h (by decide))
  refine gk_y rfl rfl (zaJ en15 rfl (fun w hw=>zsf _ _ S _ _ V w (Rd.has (Has.rd hl) hw) hs (Rd.has (Has.rd hlw) hw) hsw (fun z hz=>(Rd.has (Has.rd (hsh z hz)) hw)) hss (fun z hz=>(Rd.has (Has.rd (hwo z hz)) hw)) hsv hcpw hkn hfS hfV hco)) ?_
  refine zai rfl rfl rfl rfl (fun _=>?_) (fun h=>absurd h (by decide))
  refine gk_y rfl rfl (zbR rfl) ?_
  refine gk_y rfl rfl (za5 rfl rfl rfl) ?_
  refine zag (zae (T':=[(1,_),(2,_),(4,_),(32,_)]) ⟨rfl,rfl,rfl,rfl,trivial⟩ ?_)
  refine zap rfl (fun hc32=>?_) (fun hc32=>?_)
  ·
   refine zac ?_
   refine zaa ?_
   refine gk_y rfl rfl (zaJ en13 rfl (fun w hw=>zkw w (Rd.has (Has.rd hmx) hw) (Rd.has (Has.rd hcp) hw) (Rd.has (Has.rd hop) hw))) ?_
   refine gk_y rfl rfl (zad rfl) ?_
   refine zag (zae (T':=[(1,_),(2,_),(4,_)]) ⟨rfl,rfl,rfl,trivial⟩ ?_)
   refine zaw ?_
   refine zay (zaC rfl (zau rfl)) ?_
   rfl
  ·have hP:zc4 S V=true:=by simpa using hc32
   refine zaq ?_
   refine zac ?_
   refine zaa ?_
   refine gk_y rfl rfl (zat 0 tf25 rfl rfl (vs:=[_,_]) rfl rfl) ?_
   refine zaG rfl rfl (zbm en14 rfl (fun w hw=>zue _ _ S _ _ V w (Rd.has (Has.rd hl) hw) hs (Rd.has (Has.rd hlw) hw) hsw (fun z hz=>(Rd.has (Has.rd (hsh z hz)) hw)) hss (fun z hz=>(Rd.has (Has.rd (hwo z hz)) hw)) hsv hS1 hV1)) fun p35=>?_
   refine zaG rfl rfl (zaL tf31 (zs:=[_,_]) rfl) fun b5=>?_
   refine zaA 0 tf31 rfl rfl (vs:=[_,_]) rfl rfl rfl rfl rfl ?_
   refine zag (zae (T':=[(1,_),(4,_),(5,_)]) ⟨rfl,rfl,rfl,trivial⟩ ?_)
   refine zao 1 rfl ?_
   obtain⟨⟨ra,rc,S2⟩,⟨rb,rd,V2⟩⟩:=p35
   refine zjk fun hS2 hV2=>?_
   have hS2:S2.map (·.s)=S.map (·.s):=hS2
   have hV2:V2.map (·.s)=V.map (·.s):=hV2
   obtain⟨l1,l2,y1,y2,y3,y4,ykn⟩:=zxG hsm hkn hS2 hV2
   refine za2 (R':=Box b5 [.slice ra S2.length rc,.slice rb V2.length rd] 31) 4 rfl (fun B w hA=>hA) ?_
   have hP2:zc4 S2 V2=true:=by rw [zmw hS2 hV2]; exact hP
   obtain⟨_,hsss⟩:=zxT (n:=n) y4 y3
   refine zac ?_
   refine zaa ?_
   refine gk_y rfl rfl (zat 4 tf31 rfl rfl (vs:=[_,_]) rfl rfl) ?_
   refine gk_y rfl rfl (zaf rfl) ?_
   refine zaG rfl rfl (zbm en36 rfl (fun w hw=>zyh _ _ S2 _ _ V2 n w (zam zbI (hw.has (p:=0) rfl)) y1 (zcM (hw.has (p:=0) rfl)) (zam zbo (hw.has (p:=2) rfl)) y2 (fun z hz2=>zam Go.Stn.encI_ok (zbV (f:=rowH 3) (hw.has (p:=1) rfl) hz2)) y3 (fun z hz2=>zam encOpn_ok (zbV (f:=rowO 98) (hw.has (p:=3) rfl) hz2)) y4 (fun z hz2=>zcM (zbV (f:=rowO 98) (hw.has (p:=3) rfl) hz2)) ykn)) fun p39=>zbP ?_
   refine gk_y rfl rfl (zaf rfl) ?_
   refine gk_y rfl rfl (zaB rfl rfl) ?_
   refine gk_y rfl rfl (zaB rfl rfl) ?_
   refine gk_y rfl rfl (zaB rfl rfl) ?_
   refine zaG rfl rfl (zaL tf94 (zs:=[_,_,_,_]) rfl) fun b6=>?_
   refine zaG rfl rfl (zaL tf41 (zs:=[_,_,_,_,_,_,_,_,_,_,_,_,_,_,_,_,_,_,_,_]) rfl) fun b7=>?_
   refine zaA 1 tf94 rfl rfl (vs:=[_,_,_,_]) rfl rfl rfl rfl rfl ?_
   refine zbz 0 tf41 rfl rfl (vs:=[_,_,_,_,_,_,_,_,_,_,_,_,_,_,_,_,_,_,_,_]) rfl rfl rfl rfl rfl ?_
   refine gk_y rfl rfl (zad rfl) ?_
   refine zag (zae (T':=[(1,_),(4,_),(5,_),(6,_),(7,_),(8,_)]) ⟨rfl,rfl,rfl,rfl,rfl,rfl,trivial⟩ ?_)
   refine zac ?_
   refine zac ?_
   refine zaa ?_
   refine gk_y rfl rfl (zaf rfl) ?_
   refine gk_y rfl rfl (zcr rfl rfl) ?_
   refine zag (zae (T':=[(1,_),(4,_),(5,_),(6,_),(7,_),(8,_),(44,_)]) ⟨rfl,rfl,rfl,rfl,rfl,rfl,rfl,trivial⟩ ?_)
   refine zap rfl (fun hc44=>?_) (fun hc44=>?_)
   ·have hne:¬ zb6 S2 V2 n=0:=by simpa using hc44
    have hE6:zb6 S2 V2 n=6:=by by_cases h:0≤zaM V2 n <;> first | exact absurd (zpp hP2 h) hne | exact zkV hP2 h
    refine zac ?_
    refine zaa ?_
    refine gk_y rfl rfl (zaf rfl) ?_
    refine gk_y rfl rfl (zbQ (zbL rfl rfl) (by rw [hE6]; rfl)) ?_
    refine gk_y rfl rfl (zaf rfl) ?_
    refine zai rfl rfl rfl rfl (fun _=>?_) (fun h=>absurd h (by decide))
    refine gk_y rfl rfl (zaJ en13 rfl (fun w hw=>zkw w (Rd.has (Has.rd hmx) hw) (Rd.has (Has.rd hcp) hw) (Rd.has (Has.rd hop) hw))) ?_
    refine gk_y rfl rfl (za5 rfl rfl rfl) ?_
    refine gk_y rfl rfl (zad rfl) ?_
    refine zag (zae (T':=[(1,_),(4,_),(5,_),(6,_),(7,_)]) ⟨rfl,rfl,rfl,rfl,rfl,trivial⟩ ?_)
    refine zaw ?_
    refine zay (zaC rfl (zau rfl)) ?_
    rfl
   ·have hfe:zb6 S2 V2 n=0:=by simpa using hc44
    have hfe2:=zjR hfe
    obtain⟨_,_,hsp,hWF⟩:=zfu hfe
    have hwb:zd1 (zar S2 V2 n).s.height (zaN S2 V2 n).s=true:=by rw [zhF hfe,zhE hfe]; exact(zf8 hfe2.1 _ (zid hfe2.2)).2
    have hnm:=zaZ hsp
    have htop0:=hnm.height
    have hlen:=hWF.len
    have hck:zcX (zar S2 V2 n).s=0:=if_pos hsp
    have hcs:zfC (zar S2 V2 n).s=zaj (zar S2 V2 n).s:=if_pos hsp
    have eK:(zcF S2 V2 n)=zbi (zaN S2 V2 n).s (zar S2 V2 n).s:=if_pos hfe
    have eT:(zei S2 V2 n)=thrL (zaN S2 V2 n).s (zar S2 V2 n).s:=if_pos hfe
    have eA:(ziJ S2 V2 n)=zi2 (zar S2 V2 n).s:=if_pos hfe
    have hev0:0≤(zar S2 V2 n).s.every:=by by_cases h:(zar S2 V2 n).s.every=0 <;> first | omega | (have:=zjQ hsp h; omega)
    have hon:=hWF.num
    have hKn:((zcF S2 V2 n).length:Int)≤100000:=by rw [eK]; exact zfB hWF
    have hTn:((zei S2 V2 n).length:Int)≤100000:=by rw [eT]; exact zsn hWF hev0
    have hca:=fun(i:Int) h0 h1=>zyb hWF hsp (i:=i) h0 h1
    rw [←eK] at hca
    have hcf:=fun(i:Int) h0 h1 (o:Opn) ho h=>zx0 hWF hsp (i:=i) h0 h1 (o:=o) ho h
    rw [←eK] at hcf
    have hta:=fun(i:Int) h0 h1=>zyg hWF hsp (i:=i) h0 h1
    rw [←eT,←eA,←hcs] at hta
    have hcov:¬ (zar S2 V2 n).s.cope=0→sumC (zcF S2 V2 n)+sumW ((zaN S2 V2 n).s.opens.filter (zj4 (zar S2 V2 n).s.height))=(zaN S2 V2 n).s.length:=fun h=>by rw [eK]; exact zxU hwb hsp h
    have hK0:(zar S2 V2 n).s.cope=0→(zcF S2 V2 n)=[]:=fun h=>by rw [eK]; exact if_pos h
    refine zaq ?_
    refine zac ?_
    refine zaa ?_
    refine gk_y rfl rfl (zat 8 tf31 rfl rfl (vs:=[_,_]) rfl rfl) ?_
    refine gk_y rfl rfl (zaf rfl) ?_
    refine zaG rfl rfl (zbm en31 rfl (fun w hw=>zoL _ _ S2 _ _ V2 n w (zam zbI (hw.has (p:=4) rfl)) y1 (zcM (hw.has (p:=4) rfl)) (zam zbo (hw.has (p:=6) rfl)) y2 (fun z hz2=>zam Go.Stn.encI_ok (zbV (f:=rowH 3) (hw.has (p:=5) rfl) hz2)) y3 (fun z hz2=>zam encOpn_ok (zbV (f:=rowO 98) (hw.has (p:=7) rfl) hz2)) y4 (fun z hz2=>zcM (zbV (f:=rowO 98) (hw.has (p:=7) rfl) hz2)) ykn)) fun p53=>?_
    refine gk_y rfl rfl (zaf rfl) ?_
    refine gk_y rfl rfl (zaB rfl rfl) ?_
    refine gk_y rfl rfl (zaB rfl rfl) ?_
    refine gk_y rfl rfl (zad rfl) ?_
    refine gk_y rfl rfl (zad rfl) ?_
    refine zag (zae (T':=[(1,_),(4,_),(5,_),(6,_),(7,_),(9,_),(10,_)]) ⟨rfl,rfl,rfl,rfl,rfl,rfl,rfl,trivial⟩ ?_)
    refine zac ?_
    refine zaa ?_
    refine gk_y rfl rfl (zat 9 tf31 rfl rfl (vs:=[_,_]) rfl rfl) ?_
    refine gk_y rfl rfl (zaf rfl) ?_
    refine zaG rfl rfl (zbm en30 rfl (fun w hw=>zi4 _ _ S2 _ _ V2 n w (zam zbI (hw.has (p:=5) rfl)) y1 (zcM (hw.has (p:=5) rfl)) (zam zbo (hw.has (p:=7) rfl)) y2 (fun z hz2=>zam Go.Stn.encI_ok (zbV (f:=rowH 3) (hw.has (p:=6) rfl) hz2)) y3 (fun z hz2=>zam encOpn_ok (zbV (f:=rowO 98) (hw.has (p:=8) rfl) hz2)) y4 (fun z hz2=>zcM (zbV (f:=rowO 98) (hw.has (p:=8) rfl) hz2)) ykn)) fun p59=>?_
    refine gk_y rfl rfl (zaf rfl) ?_
    refine gk_y rfl rfl (zaB rfl rfl) ?_
    refine gk_y rfl rfl (zaB rfl rfl) ?_
    refine gk_y rfl rfl (zaB rfl rfl) ?_
    refine gk_y rfl rfl (zad rfl) ?_
    refine gk_y rfl rfl (zad rfl) ?_
    refine gk_y rfl rfl (zad rfl) ?_
    refine zag (zae (T':=[(4,_),(6,_),(7,_),(9,_),(10,_),(11,_),(12,_),(13,_)]) ⟨rfl,rfl,rfl,rfl,rfl,rfl,rfl,rfl,trivial⟩ ?_)
    refine zac ?_
    refine zaa ?_
    refine gk_y rfl rfl (zat 2 tf41 rfl rfl (vs:=[_,_,_,_,_,_,_,_,_,_,_,_,_,_,_,_,_,_,_,_]) rfl rfl) ?_
    refine zaG rfl rfl (zbm en17 rfl (fun w hw=>zoM _ _ (zar S2 V2 n).s w (zam Go.Stn.encI_ok (hw.has (p:=5) rfl)) hsss)) fun p65=>?_
    refine gk_y rfl rfl (zaf rfl) ?_
    refine gk_y rfl rfl (zaB rfl rfl) ?_
    refine gk_y rfl rfl (zaB rfl rfl) ?_
    refine gk_y rfl rfl (zad rfl) ?_
    refine gk_y rfl rfl (zad rfl) ?_
    refine zag (zae (T':=[(4,_),(6,_),(7,_),(9,_),(10,_),(11,_),(12,_),(13,_),(14,_),(15,_)]) ⟨rfl,rfl,rfl,rfl,rfl,rfl,rfl,rfl,rfl,rfl,trivial⟩ ?_)
    refine zac ?_
    refine zac ?_
    refine zaa ?_
    refine gk_y rfl rfl (zaf rfl) ?_
    refine gk_y rfl rfl (zdB (b':=false) (zcr rfl rfl) (by rw [hfe]; rfl)) ?_
    refine gk_y rfl rfl (zaf rfl) ?_
    refine zai rfl rfl rfl rfl (fun _=>?_) (fun h=>absurd h (by decide))
    refine gk_y rfl rfl (zaf rfl) ?_
    refine zai rfl rfl rfl rfl (fun _=>?_) (fun h=>absurd h (by decide))
    refine gk_y rfl rfl (zdB (b':=false) (zcr rfl rfl) (by rw [hfe]; rfl)) ?_
    refine gk_y rfl rfl (za5 rfl rfl rfl) ?_
    refine gk_y rfl rfl (zaf rfl) ?_
    refine zai rfl rfl rfl rfl (fun _=>?_) (fun h=>absurd h (by decide))
    refine gk_y rfl rfl (zaf rfl) ?_
    refine zai rfl rfl rfl rfl (fun _=>?_) (fun h=>absurd h (by decide))
    refine gk_y rfl rfl (zdB (b':=false) (zcr rfl rfl) (by rw [hck]; rfl)) ?_
    refine gk_y rfl rfl (za5 rfl rfl rfl) ?_
    refine zag (zae (T':=[(4,_),(6,_),(7,_),(9,_),(11,_),(12,_),(14,_),(77,_)]) ⟨rfl,rfl,rfl,rfl,rfl,rfl,rfl,rfl,trivial⟩ ?_)
    refine zd8 rfl ?_
    refine zaq ?_
    refine zac ?_
    refine zaa ?_
    refine gk_y rfl rfl (zad rfl) ?_
    refine zag (zae (T':=[(4,_),(6,_),(7,_),(9,_),(11,_),(12,_),(14,_),(16,_)]) ⟨rfl,rfl,rfl,rfl,rfl,rfl,rfl,rfl,trivial⟩ ?_)
    refine zac ?_
    refine zac ?_
    refine zaa ?_
    refine gk_y rfl rfl (zad rfl) ?_
    refine zag (zae (T':=[(4,_),(6,_),(7,_),(9,_),(11,_),(12,_),(14,_),(16,_),(17,_)]) ⟨rfl,rfl,rfl,rfl,rfl,rfl,rfl,rfl,rfl,trivial⟩ ?_)
    refine zas ?_
    refine zbf (X:=Int×Int) (fun⟨i,cv⟩=>[(4,.bool false),(6,.pointer (some ⟨b6,0,none⟩)),(7,.pointer (some ⟨b7,0,none⟩)),(9,.slice p53.1 (zcF S2 V2 n).length p53.2),(11,.int .i64 (ziJ S2 V2 n)),(12,.slice p59.1 (zei S2 V2 n).length p59.2),(14,.slice p65.1 (zfC ((zar S2 V2 n).s)).length p65.2),(16,.int .i64 cv),(17,.int .i64 i)]) (fun⟨i,cv⟩=>[Row p65.1 2 p65.2 49 zbq (zfC ((zar S2 V2 n).s)),Row p59.1 1 p59.2 3 Go.Stn.encI (zei S2 V2 n),Row p53.1 3 p53.2 87 zcm (zcF S2 V2 n),Box b7 [.string (zar S2 V2 n).s.name,.int .i64 ((zar S2 V2 n).s.base),.int .i64 ((zar S2 V2 n).s.batter),.int .i64 ((zar S2 V2 n).s.height),.int .i64 ((zar S2 V2 n).s.skin),.slice p39.2.1 (zar S2 V2 n).s.heights.length p39.2.2,.int .i64 ((zar S2 V2 n).s.least),.int .i64 ((zar S2 V2 n).s.lap),.int .i64 ((zar S2 V2 n).s.run),.int .i64 ((zar S2 V2 n).s.every),.int .i64 ((zar S2 V2 n).s.at_),.int .i64 ((zar S2 V2 n).s.footing),.int .i64 ((zar S2 V2 n).s.spread),.int .u8 (zar S2 V2 n).s.cope,.int .i64 ((zar S2 V2 n).s.tall),.int .i64 ((zar S2 V2 n).s.short),.int .i64 ((zar S2 V2 n).s.thick),.int .i64 ((zar S2 V2 n).s.low),.int .i64 ((zar S2 V2 n).s.high),.int .i64 ((zar S2 V2 n).s.rood)] 41,Box b6 [.string (zaN S2 V2 n).s.name,.string (zaN S2 V2 n).s.sheet,.int .i64 ((zaN S2 V2 n).s.length),.slice p39.1.1 (zaN S2 V2 n).s.opens.length p39.1.2] 94,Row p39.1.1 5 p39.1.2 98 zba (zaN S2 V2 n).s.opens,Row p39.2.1 1 p39.2.2 3 Go.Stn.encI (zar S2 V2 n).s.heights,Row ra 20 rc 41 zbH S2,Go.K.Rows (rowH 3) S2,Row rb 4 rd 94 zbS V2,Go.K.Rows (rowO 98) V2,Box b5 [.slice ra S2.length rc,.slice rb V2.length rd] 31,Box b2 [.slice a S.length cap,.slice b V.length bcap] 25]) (fun⟨i,cv⟩=>(0≤i∧i≤(zcF S2 V2 n).length∧cv=sumC ((zcF S2 V2 n).take i.toNat)∧0≤cv∧cv≤1000*i)) (fun⟨i,cv⟩=>((zcF S2 V2 n).length - i).toNat) (0,0) ⟨rfl,rfl,rfl,rfl,rfl,rfl,rfl,rfl,rfl,trivial⟩ rfl ?_ ?_
    ·exact⟨by omega,by omega,rfl,by omega,by omega⟩
    ·rintro ⟨i,cv⟩ hI
     obtain⟨g0,g1,g2,g3,g4⟩:=hI
     refine zac ?_
     refine zac ?_
     refine zaa ?_
     refine gk_y rfl rfl (zaf rfl) ?_
     refine gk_y rfl rfl (zaf rfl) ?_
     refine gk_y rfl rfl (zaV (Tryz.underlying73) rfl) ?_
     refine gk_y rfl rfl (zbw rfl rfl) ?_
     refine zag (zae (T':=[(4,_),(6,_),(7,_),(9,_),(11,_),(12,_),(14,_),(16,_),(17,_),(81,_)]) ⟨rfl,rfl,rfl,rfl,rfl,rfl,rfl,rfl,rfl,rfl,trivial⟩ ?_)
     refine zap rfl (fun hc81=>?_) (fun hc81=>?_)
     ·have hc81:=of_decide_eq_true hc81
      obtain⟨k1,k2,k3⟩:=hca i g0 hc81
      have hst:=zx6 (l:=(zcF S2 V2 n)) g0 hc81
      rcases Int.lt_or_le 0 i with hi0 | hi0
      ·
       obtain⟨k4,k5,k6⟩:=k3 hi0
       refine zaq ?_
       refine zac ?_
       refine zas ?_
       refine zac ?_
       refine zac ?_
       refine zbb 41 (fun _=>mixed) (by kernel_rfl) ?_
       refine ph_y (zaf rfl) ?_
       refine ph_y (zaf rfl) ?_
       refine ph_y (zaE se73 rfl rfl (fun _ hw=>(zam zbc (hw.has (p:=2) rfl))) (by omega) (by omega)) ?_
       refine ph_y (zbh zsT rfl (fun w hw=>zaO (i:=i) (zam zbc (hw.has (p:=2) rfl)) (by omega) (by omega))) ?_
       refine ph_y (zbn tf3 rfl (fun _ hw=>(zam zbc (hw.has (p:=2) rfl))) (by omega) (by omega) rfl) ?_
       refine ph_y (zdB (b':=false) (zbw rfl rfl) (by exact decide_eq_false (by omega))) ?_
       refine ph_y (zaf rfl) ?_
       refine ziw rfl rfl (zaf rfl) ?_
       refine ziw rfl rfl (zaf rfl) ?_
       refine ziw rfl rfl (zaE se73 rfl rfl (fun _ hw=>(zam zbc (hw.has (p:=2) rfl))) (by omega) (by omega)) ?_
       refine ziw rfl rfl (zbh zsT rfl (fun w hw=>zaO (i:=i) (zam zbc (hw.has (p:=2) rfl)) (by omega) (by omega))) ?_
       refine ziw rfl rfl (zbn tf3 rfl (fun _ hw=>(zam zbc (hw.has (p:=2) rfl))) (by omega) (by omega) rfl) ?_
       refine ziw rfl rfl (zab zfd rfl) ?_
       refine ziw rfl rfl (zah 3 tf3 rfl rfl rfl) ?_
       refine ziw rfl rfl (zdB (b':=false) (zc6 rfl rfl) (by exact decide_eq_false (by omega))) ?_
       refine ph_y (zdB (b':=false) (zaR rfl rfl rfl) (by rfl)) ?_
       refine ph_y (zaf rfl) ?_
       refine ziw rfl rfl (zaf rfl) ?_
       refine ziw rfl rfl (zbQ (zc6 rfl rfl) (by exact decide_eq_true hi0)) ?_
       refine ziw rfl rfl (zaf rfl) ?_
       refine ziw rfl rfl (zaf rfl) ?_
       refine ziw rfl rfl (zaf rfl) ?_
       refine ziw rfl rfl (zaE se73 rfl rfl (fun _ hw=>(zam zbc (hw.has (p:=2) rfl))) (by omega) (by omega)) ?_
       refine ziw rfl rfl (zbh zvX rfl (fun w hw=>zaO (i:=i) (zam zbc (hw.has (p:=2) rfl)) (by omega) (by omega))) ?_
       refine ziw rfl rfl (zbn tf3 rfl (fun _ hw=>(zam zbc (hw.has (p:=2) rfl))) (by omega) (by omega) rfl) ?_
       refine ziw rfl rfl (zaf rfl) ?_
       refine ziw rfl rfl (zaf rfl) ?_
       refine ziw rfl rfl (zfV rfl rfl (by omega) (by omega)) ?_
       refine ziw rfl rfl (zaE se73 rfl rfl (fun _ hw=>(zam zbc (hw.has (p:=2) rfl))) (by omega) (by omega)) ?_
       refine ziw rfl rfl (zbh zvX rfl (fun w hw=>zaO (i:=(i - 1)) (zam zbc (hw.has (p:=2) rfl)) (by omega) (by omega))) ?_
       refine ziw rfl rfl (zbn tf3 rfl (fun _ hw=>(zam zbc (hw.has (p:=2) rfl))) (by omega) (by omega) rfl) ?_
       refine ziw rfl rfl (zaf rfl) ?_
       refine ziw rfl rfl (zaf rfl) ?_
       refine ziw rfl rfl (zfV rfl rfl (by omega) (by omega)) ?_
       refine ziw rfl rfl (zaE se73 rfl rfl (fun _ hw=>(zam zbc (hw.has (p:=2) rfl))) (by omega) (by omega)) ?_
       refine ziw rfl rfl (zbh zsT rfl (fun w hw=>zaO (i:=(i - 1)) (zam zbc (hw.has (p:=2) rfl)) (by omega) (by omega))) ?_
       refine ziw rfl rfl (zbn tf3 rfl (fun _ hw=>(zam zbc (hw.has (p:=2) rfl))) (by omega) (by omega) rfl) ?_
       refine ziw rfl rfl (zaY rfl rfl (by omega) (by omega)) ?_
       refine ziw rfl rfl (zdB (b':=false) (zbw rfl rfl) (by exact decide_eq_false (by omega))) ?_
       refine ziw rfl rfl (za5 rfl rfl rfl) ?_
       refine ph_y (zaR rfl rfl rfl) ?_
       refine zag (zae (T':=[(4,_),(6,_),(7,_),(9,_),(11,_),(12,_),(14,_),(16,_),(17,_),(124,_)]) ⟨rfl,rfl,rfl,rfl,rfl,rfl,rfl,rfl,rfl,rfl,trivial⟩ ?_)
       refine zd8 rfl ?_
       refine zaq ?_
       refine zaa ?_
       refine gk_y rfl rfl (zaf rfl) ?_
       refine gk_y rfl rfl (zaf rfl) ?_
       refine gk_y rfl rfl (zaf rfl) ?_
       refine gk_y rfl rfl (zaE se73 rfl rfl (fun _ hw=>(zam zbc (hw.has (p:=2) rfl))) (by omega) (by omega)) ?_
       refine gk_y rfl rfl (zbh zsT rfl (fun w hw=>zaO (i:=i) (zam zbc (hw.has (p:=2) rfl)) (by omega) (by omega))) ?_
       refine gk_y rfl rfl (zbn tf3 rfl (fun _ hw=>(zam zbc (hw.has (p:=2) rfl))) (by omega) (by omega) rfl) ?_
       refine gk_y rfl rfl (zaY rfl rfl (by omega) (by omega)) ?_
       refine gk_y rfl rfl (zad rfl) ?_
       refine zag (zae (T':=[(4,_),(6,_),(7,_),(9,_),(11,_),(12,_),(14,_),(16,_),(17,_)]) ⟨rfl,rfl,rfl,rfl,rfl,rfl,rfl,rfl,rfl,trivial⟩ ?_)
       refine zaa ?_
       refine gk_y rfl rfl (zaf rfl) ?_
       refine gk_y rfl rfl (zaY rfl rfl (by omega) (by omega)) ?_
       refine gk_y rfl rfl (zad rfl) ?_
       refine zag (zae (T':=[(4,_),(6,_),(7,_),(9,_),(11,_),(12,_),(14,_),(16,_),(17,_)]) ⟨rfl,rfl,rfl,rfl,rfl,rfl,rfl,rfl,rfl,trivial⟩ ?_)
       exact za1 (i+1,cv+((zcF S2 V2 n).getD i.toNat default).width) ⟨rfl,rfl,rfl,rfl,rfl,rfl,rfl,rfl,rfl,trivial⟩ rfl ⟨by omega,by omega,by rw [hst,←g2],by omega,by omega⟩ (by simp only []; omega)
      ·
       refine zaq ?_
       refine zac ?_
       refine zas ?_
       refine zac ?_
       refine zac ?_
       refine zbb 41 (fun _=>mixed) (by kernel_rfl) ?_
       refine ph_y (zaf rfl) ?_
       refine ph_y (zaf rfl) ?_
       refine ph_y (zaE se73 rfl rfl (fun _ hw=>(zam zbc (hw.has (p:=2) rfl))) (by omega) (by omega)) ?_
       refine ph_y (zbh zsT rfl (fun w hw=>zaO (i:=i) (zam zbc (hw.has (p:=2) rfl)) (by omega) (by omega))) ?_
       refine ph_y (zbn tf3 rfl (fun _ hw=>(zam zbc (hw.has (p:=2) rfl))) (by omega) (by omega) rfl) ?_
       refine ph_y (zdB (b':=false) (zbw rfl rfl) (by exact decide_eq_false (by omega))) ?_
       refine ph_y (zaf rfl) ?_
       refine ziw rfl rfl (zaf rfl) ?_
       refine ziw rfl rfl (zaf rfl) ?_
       refine ziw rfl rfl (zaE se73 rfl rfl (fun _ hw=>(zam zbc (hw.has (p:=2) rfl))) (by omega) (by omega)) ?_
       refine ziw rfl rfl (zbh zsT rfl (fun w hw=>zaO (i:=i) (zam zbc (hw.has (p:=2) rfl)) (by omega) (by omega))) ?_
       refine ziw rfl rfl (zbn tf3 rfl (fun _ hw=>(zam zbc (hw.has (p:=2) rfl))) (by omega) (by omega) rfl) ?_
       refine ziw rfl rfl (zab zfd rfl) ?_
       refine ziw rfl rfl (zah 3 tf3 rfl rfl rfl) ?_
       refine ziw rfl rfl (zdB (b':=false) (zc6 rfl rfl) (by exact decide_eq_false (by omega))) ?_
       refine ph_y (zdB (b':=false) (zaR rfl rfl rfl) (by rfl)) ?_
       refine ph_y (zaf rfl) ?_
       refine ziw rfl rfl (zaf rfl) ?_
       refine ziw rfl rfl (zdB (b':=false) (zc6 rfl rfl) (by exact decide_eq_false (by omega))) ?_
       refine ziw rfl rfl (zaf rfl) ?_
       refine zaH (v:=.slice p53.1 (zcF S2 V2 n).length p53.2) rfl rfl (fun hgd=>absurd hgd (by decide)) ?_
       refine zaH (v:=.int .i64 i) rfl rfl (fun hgd=>absurd hgd (by decide)) ?_
       refine zaH (v:=.bool false) rfl rfl (fun hgd=>absurd hgd (by decide)) ?_
       refine zaH (v:=.bool false) rfl rfl (fun hgd=>absurd hgd (by decide)) ?_
       refine zaH (v:=.int .i64 ((zcF S2 V2 n).getD (i).toNat default).at_) rfl rfl (fun hgd=>absurd hgd (by decide)) ?_
       refine zaH (v:=.slice p53.1 (zcF S2 V2 n).length p53.2) rfl rfl (fun hgd=>absurd hgd (by decide)) ?_
       refine zaH (v:=.int .i64 i) rfl rfl (fun hgd=>absurd hgd (by decide)) ?_
       refine zaH (v:=.int .i64 (i - 1)) rfl rfl (fun hgd=>absurd hgd (by decide)) ?_
       refine zaH (v:=.bool false) rfl rfl (fun hgd=>absurd hgd (by decide)) ?_
       refine zaH (v:=.bool false) rfl rfl (fun hgd=>absurd hgd (by decide)) ?_
       refine zaH (v:=.int .i64 ((zcF S2 V2 n).getD ((i - 1)).toNat default).at_) rfl rfl (fun hgd=>absurd hgd (by decide)) ?_
       refine zaH (v:=.slice p53.1 (zcF S2 V2 n).length p53.2) rfl rfl (fun hgd=>absurd hgd (by decide)) ?_
       refine zaH (v:=.int .i64 i) rfl rfl (fun hgd=>absurd hgd (by decide)) ?_
       refine zaH (v:=.int .i64 (i - 1)) rfl rfl (fun hgd=>absurd hgd (by decide)) ?_
       refine zaH (v:=.bool false) rfl rfl (fun hgd=>absurd hgd (by decide)) ?_
       refine zaH (v:=.bool false) rfl rfl (fun hgd=>absurd hgd (by decide)) ?_
       refine zaH (v:=.int .i64 ((zcF S2 V2 n).getD ((i - 1)).toNat default).width) rfl rfl (fun hgd=>absurd hgd (by decide)) ?_
       refine zaH (v:=.int .i64 (((zcF S2 V2 n).getD ((i - 1)).toNat default).at_+((zcF S2 V2 n).getD ((i - 1)).toNat default).width)) rfl rfl (fun hgd=>absurd hgd (by decide)) ?_
       refine zaH (v:=.bool (decide (((zcF S2 V2 n).getD (i).toNat default).at_ < (((zcF S2 V2 n).getD ((i - 1)).toNat default).at_+((zcF S2 V2 n).getD ((i - 1)).toNat default).width)))) rfl rfl (fun hgd=>absurd hgd (by decide)) ?_
       refine ziw rfl rfl (zaX rfl rfl rfl) ?_
       refine ph_y (zaR rfl rfl rfl) ?_
       refine zag (zae (T':=[(4,_),(6,_),(7,_),(9,_),(11,_),(12,_),(14,_),(16,_),(17,_),(124,_)]) ⟨rfl,rfl,rfl,rfl,rfl,rfl,rfl,rfl,rfl,rfl,trivial⟩ ?_)
       refine zd8 rfl ?_
       refine zaq ?_
       refine zaa ?_
       refine gk_y rfl rfl (zaf rfl) ?_
       refine gk_y rfl rfl (zaf rfl) ?_
       refine gk_y rfl rfl (zaf rfl) ?_
       refine gk_y rfl rfl (zaE se73 rfl rfl (fun _ hw=>(zam zbc (hw.has (p:=2) rfl))) (by omega) (by omega)) ?_
       refine gk_y rfl rfl (zbh zsT rfl (fun w hw=>zaO (i:=i) (zam zbc (hw.has (p:=2) rfl)) (by omega) (by omega))) ?_
       refine gk_y rfl rfl (zbn tf3 rfl (fun _ hw=>(zam zbc (hw.has (p:=2) rfl))) (by omega) (by omega) rfl) ?_
       refine gk_y rfl rfl (zaY rfl rfl (by omega) (by omega)) ?_
       refine gk_y rfl rfl (zad rfl) ?_
       refine zag (zae (T':=[(4,_),(6,_),(7,_),(9,_),(11,_),(12,_),(14,_),(16,_),(17,_)]) ⟨rfl,rfl,rfl,rfl,rfl,rfl,rfl,rfl,rfl,trivial⟩ ?_)
       refine zaa ?_
       refine gk_y rfl rfl (zaf rfl) ?_
       refine gk_y rfl rfl (zaY rfl rfl (by omega) (by omega)) ?_
       refine gk_y rfl rfl (zad rfl) ?_
       refine zag (zae (T':=[(4,_),(6,_),(7,_),(9,_),(11,_),(12,_),(14,_),(16,_),(17,_)]) ⟨rfl,rfl,rfl,rfl,rfl,rfl,rfl,rfl,rfl,trivial⟩ ?_)
       exact za1 (i+1,cv+((zcF S2 V2 n).getD i.toNat default).width) ⟨rfl,rfl,rfl,rfl,rfl,rfl,rfl,rfl,rfl,trivial⟩ rfl ⟨by omega,by omega,by rw [hst,←g2],by omega,by omega⟩ (by simp only []; omega)
     ·have hc81:=of_decide_eq_false hc81
      have hcvK:cv=sumC (zcF S2 V2 n):=by rw [g2,List.take_of_length_le (by omega)]
      refine za8 rfl ?_
      refine zac ?_
      refine zaa ?_
      refine gk_y rfl rfl (zad rfl) ?_
      refine zag (zae (T':=[(4,_),(6,_),(7,_),(9,_),(11,_),(12,_),(14,_),(16,_),(18,_)]) ⟨rfl,rfl,rfl,rfl,rfl,rfl,rfl,rfl,rfl,trivial⟩ ?_)
      refine zac ?_
      refine zac ?_
      refine zaa ?_
      refine gk_y rfl rfl (zad rfl) ?_
      refine zag (zae (T':=[(4,_),(6,_),(7,_),(9,_),(11,_),(12,_),(14,_),(16,_),(18,_),(19,_)]) ⟨rfl,rfl,rfl,rfl,rfl,rfl,rfl,rfl,rfl,rfl,trivial⟩ ?_)
      refine zas ?_
      refine zbf (X:=Int×Int) (fun⟨i,op⟩=>[(4,.bool false),(6,.pointer (some ⟨b6,0,none⟩)),(7,.pointer (some ⟨b7,0,none⟩)),(9,.slice p53.1 (zcF S2 V2 n).length p53.2),(11,.int .i64 (ziJ S2 V2 n)),(12,.slice p59.1 (zei S2 V2 n).length p59.2),(14,.slice p65.1 (zfC ((zar S2 V2 n).s)).length p65.2),(16,.int .i64 cv),(18,.int .i64 op),(19,.int .i64 i)]) (fun⟨i,op⟩=>[Row p65.1 2 p65.2 49 zbq (zfC ((zar S2 V2 n).s)),Row p59.1 1 p59.2 3 Go.Stn.encI (zei S2 V2 n),Row p53.1 3 p53.2 87 zcm (zcF S2 V2 n),Box b7 [.string (zar S2 V2 n).s.name,.int .i64 ((zar S2 V2 n).s.base),.int .i64 ((zar S2 V2 n).s.batter),.int .i64 ((zar S2 V2 n).s.height),.int .i64 ((zar S2 V2 n).s.skin),.slice p39.2.1 (zar S2 V2 n).s.heights.length p39.2.2,.int .i64 ((zar S2 V2 n).s.least),.int .i64 ((zar S2 V2 n).s.lap),.int .i64 ((zar S2 V2 n).s.run),.int .i64 ((zar S2 V2 n).s.every),.int .i64 ((zar S2 V2 n).s.at_),.int .i64 ((zar S2 V2 n).s.footing),.int .i64 ((zar S2 V2 n).s.spread),.int .u8 (zar S2 V2 n).s.cope,.int .i64 ((zar S2 V2 n).s.tall),.int .i64 ((zar S2 V2 n).s.short),.int .i64 ((zar S2 V2 n).s.thick),.int .i64 ((zar S2 V2 n).s.low),.int .i64 ((zar S2 V2 n).s.high),.int .i64 ((zar S2 V2 n).s.rood)] 41,Box b6 [.string (zaN S2 V2 n).s.name,.string (zaN S2 V2 n).s.sheet,.int .i64 ((zaN S2 V2 n).s.length),.slice p39.1.1 (zaN S2 V2 n).s.opens.length p39.1.2] 94,Row p39.1.1 5 p39.1.2 98 zba (zaN S2 V2 n).s.opens,Row p39.2.1 1 p39.2.2 3 Go.Stn.encI (zar S2 V2 n).s.heights,Row ra 20 rc 41 zbH S2,Go.K.Rows (rowH 3) S2,Row rb 4 rd 94 zbS V2,Go.K.Rows (rowO 98) V2,Box b5 [.slice ra S2.length rc,.slice rb V2.length rd] 31,Box b2 [.slice a S.length cap,.slice b V.length bcap] 25]) (fun⟨i,op⟩=>(0≤i∧i≤(zaN S2 V2 n).s.opens.length∧op=sumW (((zaN S2 V2 n).s.opens.take i.toNat).filter (zj4 (zar S2 V2 n).s.height))∧0≤op∧op≤100000*i)) (fun⟨i,op⟩=>((zaN S2 V2 n).s.opens.length - i).toNat) (0,0) ⟨rfl,rfl,rfl,rfl,rfl,rfl,rfl,rfl,rfl,rfl,trivial⟩ rfl ?_ ?_
      ·exact⟨by omega,by omega,rfl,by omega,by omega⟩
      ·rintro ⟨i,op⟩ hI
       obtain⟨g0,g1,g2,g5,g6⟩:=hI
       refine zac ?_
       refine zac ?_
       refine zaa ?_
       refine gk_y rfl rfl (zaf rfl) ?_
       refine gk_y rfl rfl (zab zhe rfl) ?_
       refine gk_y rfl rfl (zah 4 tf92 rfl rfl rfl) ?_
       refine gk_y rfl rfl (zaV (Tryz.underlying92) rfl) ?_
       refine gk_y rfl rfl (zbw rfl rfl) ?_
       refine zag (zae (T':=[(4,_),(6,_),(7,_),(9,_),(11,_),(12,_),(14,_),(16,_),(18,_),(19,_),(136,_)]) ⟨rfl,rfl,rfl,rfl,rfl,rfl,rfl,rfl,rfl,rfl,rfl,trivial⟩ ?_)
       refine zap rfl (fun hc136=>?_) (fun hc136=>?_)
       ·have hc136:=of_decide_eq_true hc136
        have hfo:=hWF.fit ((zaN S2 V2 n).s.opens.getD i.toNat default) (za0 (by omega))
        have o1:=hfo.a; have o2:=hfo.w; have o3:=hfo.h; have o4:=hfo.f
        have hsw:=zx7 (p:=zj4 (zar S2 V2 n).s.height) g0 hc136
        refine zaq ?_
        refine zac ?_
        refine zas ?_
        refine zac ?_
        refine zaa ?_
        refine gk_y rfl rfl (zab zhe rfl) ?_
        refine gk_y rfl rfl (zah 4 tf92 rfl rfl rfl) ?_
        refine gk_y rfl rfl (zaf rfl) ?_
        refine gk_y rfl rfl (zaE se92 rfl rfl (fun _ hw=>(zam encOpn_ok (hw.has (p:=5) rfl))) (by omega) (by omega)) ?_
        refine gk_y rfl rfl (zbv (vs:=[_,_,_,_,_]) tf98 rfl (fun _ hw=>(zam encOpn_ok (hw.has (p:=5) rfl))) (by omega) (by omega) rfl) ?_
        refine zaG rfl rfl (zaL tf98 (zs:=[_,_,_,_,_]) rfl) fun b20=>?_
        refine zaA 0 tf98 rfl rfl (vs:=[_,_,_,_,_]) rfl rfl rfl rfl rfl ?_
        refine zag (zae (T':=[(4,_),(6,_),(7,_),(9,_),(11,_),(12,_),(14,_),(16,_),(18,_),(19,_),(20,_)]) ⟨rfl,rfl,rfl,rfl,rfl,rfl,rfl,rfl,rfl,rfl,rfl,trivial⟩ ?_)
        refine zac ?_
        refine zaa ?_
        refine gk_y rfl rfl (zab zfe rfl) ?_
        refine gk_y rfl rfl (zah 0 tf3 rfl rfl rfl) ?_
        refine gk_y rfl rfl (zab zhg rfl) ?_
        refine gk_y rfl rfl (zah 0 tf3 rfl rfl rfl) ?_
        refine gk_y rfl rfl (zaY rfl rfl (by omega) (by omega)) ?_
        refine gk_y rfl rfl (zab zep rfl) ?_
        refine gk_y rfl rfl (zah 4 tf3 rfl rfl rfl) ?_
        refine gk_y rfl rfl (zbL rfl rfl) ?_
        refine zag (zae (T':=[(4,_),(6,_),(7,_),(9,_),(11,_),(12,_),(14,_),(16,_),(18,_),(19,_),(20,_),(151,_)]) ⟨rfl,rfl,rfl,rfl,rfl,rfl,rfl,rfl,rfl,rfl,rfl,rfl,trivial⟩ ?_)
        refine zap rfl (fun hc151=>?_) (fun hc151=>?_)
        ·have htop:((zaN S2 V2 n).s.opens.getD i.toNat default).frm+((zaN S2 V2 n).s.opens.getD i.toNat default).high=(zar S2 V2 n).s.height:=of_decide_eq_true hc151
         refine zac ?_
         refine zaa ?_
         refine gk_y rfl rfl (zaf rfl) ?_
         refine gk_y rfl rfl (zab zji rfl) ?_
         refine gk_y rfl rfl (zah 0 tf3 rfl rfl rfl) ?_
         refine gk_y rfl rfl (zaY rfl rfl (by omega) (by omega)) ?_
         refine gk_y rfl rfl (zad rfl) ?_
         refine zag (zae (T':=[(4,_),(6,_),(7,_),(9,_),(11,_),(12,_),(14,_),(16,_),(18,_),(19,_),(20,_)]) ⟨rfl,rfl,rfl,rfl,rfl,rfl,rfl,rfl,rfl,rfl,rfl,trivial⟩ ?_)
         refine zac ?_
         refine zaa ?_
         refine gk_y rfl rfl (zad rfl) ?_
         refine zag (zae (T':=[(4,_),(6,_),(7,_),(9,_),(11,_),(12,_),(14,_),(16,_),(18,_),(19,_),(20,_),(21,_)]) ⟨rfl,rfl,rfl,rfl,rfl,rfl,rfl,rfl,rfl,rfl,rfl,rfl,trivial⟩ ?_)
         refine zas ?_
         refine zbf (X:=Int) (fun(j:Int)=>[(4,.bool false),(6,.pointer (some ⟨b6,0,none⟩)),(7,.pointer (some ⟨b7,0,none⟩)),(9,.slice p53.1 (zcF S2 V2 n).length p53.2),(11,.int .i64 (ziJ S2 V2 n)),(12,.slice p59.1 (zei S2 V2 n).length p59.2),(14,.slice p65.1 (zfC ((zar S2 V2 n).s)).length p65.2),(16,.int .i64 cv),(18,.int .i64 (op+((zaN S2 V2 n).s.opens.getD (i).toNat default).width)),(19,.int .i64 i),(20,.pointer (some ⟨b20,0,none⟩)),(21,.int .i64 j)]) (fun(j:Int)=>[Box b20 [.int .u8 ((zaN S2 V2 n).s.opens.getD (i).toNat default).kind,.int .i64 ((zaN S2 V2 n).s.opens.getD (i).toNat default).at_,.int .i64 ((zaN S2 V2 n).s.opens.getD (i).toNat default).width,.int .i64 ((zaN S2 V2 n).s.opens.getD (i).toNat default).frm,.int .i64 ((zaN S2 V2 n).s.opens.getD (i).toNat default).high] 98,Row p65.1 2 p65.2 49 zbq (zfC ((zar S2 V2 n).s)),Row p59.1 1 p59.2 3 Go.Stn.encI (zei S2 V2 n),Row p53.1 3 p53.2 87 zcm (zcF S2 V2 n),Box b7 [.string (zar S2 V2 n).s.name,.int .i64 ((zar S2 V2 n).s.base),.int .i64 ((zar S2 V2 n).s.batter),.int .i64 ((zar S2 V2 n).s.height),.int .i64 ((zar S2 V2 n).s.skin),.slice p39.2.1 (zar S2 V2 n).s.heights.length p39.2.2,.int .i64 ((zar S2 V2 n).s.least),.int .i64 ((zar S2 V2 n).s.lap),.int .i64 ((zar S2 V2 n).s.run),.int .i64 ((zar S2 V2 n).s.every),.int .i64 ((zar S2 V2 n).s.at_),.int .i64 ((zar S2 V2 n).s.footing),.int .i64 ((zar S2 V2 n).s.spread),.int .u8 (zar S2 V2 n).s.cope,.int .i64 ((zar S2 V2 n).s.tall),.int .i64 ((zar S2 V2 n).s.short),.int .i64 ((zar S2 V2 n).s.thick),.int .i64 ((zar S2 V2 n).s.low),.int .i64 ((zar S2 V2 n).s.high),.int .i64 ((zar S2 V2 n).s.rood)] 41,Box b6 [.string (zaN S2 V2 n).s.name,.string (zaN S2 V2 n).s.sheet,.int .i64 ((zaN S2 V2 n).s.length),.slice p39.1.1 (zaN S2 V2 n).s.opens.length p39.1.2] 94,Row p39.1.1 5 p39.1.2 98 zba (zaN S2 V2 n).s.opens,Row p39.2.1 1 p39.2.2 3 Go.Stn.encI (zar S2 V2 n).s.heights,Row ra 20 rc 41 zbH S2,Go.K.Rows (rowH 3) S2,Row rb 4 rd 94 zbS V2,Go.K.Rows (rowO 98) V2,Box b5 [.slice ra S2.length rc,.slice rb V2.length rd] 31,Box b2 [.slice a S.length cap,.slice b V.length bcap] 25]) (fun(j:Int)=>(0≤j∧j≤(zcF S2 V2 n).length)) (fun(j:Int)=>((zcF S2 V2 n).length - j).toNat) 0 ⟨rfl,rfl,rfl,rfl,rfl,rfl,rfl,rfl,rfl,rfl,rfl,rfl,trivial⟩ rfl ?_ ?_
         ·exact⟨by omega,by omega⟩
         ·rintro j hI
          obtain⟨k0,k1⟩:=hI
          refine zac ?_
          refine zac ?_
          refine zaa ?_
          refine gk_y rfl rfl (zaf rfl) ?_
          refine gk_y rfl rfl (zaf rfl) ?_
          refine gk_y rfl rfl (zaV (Tryz.underlying73) rfl) ?_
          refine gk_y rfl rfl (zbw rfl rfl) ?_
          refine zag (zae (T':=[(4,_),(6,_),(7,_),(9,_),(11,_),(12,_),(14,_),(16,_),(18,_),(19,_),(20,_),(21,_),(159,_)]) ⟨rfl,rfl,rfl,rfl,rfl,rfl,rfl,rfl,rfl,rfl,rfl,rfl,rfl,trivial⟩ ?_)
          refine zap rfl (fun hc159=>?_) (fun hc159=>?_)
          ·have hc159:=of_decide_eq_true hc159
           obtain⟨c1,c2,c3⟩:=hca j k0 hc159
           have hfr:=hcf j k0 hc159 ((zaN S2 V2 n).s.opens.getD i.toNat default) (za0 (by omega)) htop
           refine zaq ?_
           refine zac ?_
           refine zas ?_
           refine zac ?_
           refine zbb 27 (fun _=>mixed) (by kernel_rfl) ?_
           refine ph_y (zaf rfl) ?_
           refine ph_y (zaf rfl) ?_
           refine ph_y (zaE se73 rfl rfl (fun _ hw=>(zam zbc (hw.has (p:=3) rfl))) (by omega) (by omega)) ?_
           refine ph_y (zbh zvX rfl (fun w hw=>zaO (i:=j) (zam zbc (hw.has (p:=3) rfl)) (by omega) (by omega))) ?_
           refine ph_y (zbn tf3 rfl (fun _ hw=>(zam zbc (hw.has (p:=3) rfl))) (by omega) (by omega) rfl) ?_
           refine ph_y (zab zhf rfl) ?_
           refine ph_y (zah 0 tf3 rfl rfl rfl) ?_
           refine ph_y (zab zji rfl) ?_
           refine ph_y (zah 0 tf3 rfl rfl rfl) ?_
           refine ph_y (zaY rfl rfl (by omega) (by omega)) ?_
           refine ph_y (zbw rfl rfl) ?_
           refine ph_y (zaf rfl) ?_
           refine zaH rfl rfl (fun hgd=>by(try rw [hgd]); exact(zab zhf rfl)) ?_
           refine zaH rfl rfl (fun hgd=>by(try rw [hgd]); exact(zah 0 tf3 rfl rfl rfl)) ?_
           refine zaH rfl rfl (fun hgd=>by(try rw [hgd]); exact(zaf rfl)) ?_
           refine zaH rfl rfl (fun hgd=>by(try rw [hgd]); exact(zaf rfl)) ?_
           refine zaH rfl rfl (fun hgd=>by(try rw [hgd]); exact(zaE se73 rfl rfl (fun _ hw=>(zam zbc (hw.has (p:=3) rfl))) (by omega) (by omega))) ?_
           refine zaH rfl rfl (fun hgd=>by(try rw [hgd]); exact(zbh zvX rfl (fun w hw=>zaO (i:=j) (zam zbc (hw.has (p:=3) rfl)) (by omega) (by omega)))) ?_
           refine zaH rfl rfl (fun hgd=>by(try rw [hgd]); exact(zbn tf3 rfl (fun _ hw=>(zam zbc (hw.has (p:=3) rfl))) (by omega) (by omega) rfl)) ?_
           refine zaH rfl rfl (fun hgd=>by(try rw [hgd]); exact(zaf rfl)) ?_
           refine zaH rfl rfl (fun hgd=>by(try rw [hgd]); exact(zaf rfl)) ?_
           refine zaH rfl rfl (fun hgd=>by(try rw [hgd]); exact(zaE se73 rfl rfl (fun _ hw=>(zam zbc (hw.has (p:=3) rfl))) (by omega) (by omega))) ?_
           refine zaH rfl rfl (fun hgd=>by(try rw [hgd]); exact(zbh zsT rfl (fun w hw=>zaO (i:=j) (zam zbc (hw.has (p:=3) rfl)) (by omega) (by omega)))) ?_
           refine zaH rfl rfl (fun hgd=>by(try rw [hgd]); exact(zbn tf3 rfl (fun _ hw=>(zam zbc (hw.has (p:=3) rfl))) (by omega) (by omega) rfl)) ?_
           refine zaH rfl rfl (fun hgd=>by(try rw [hgd]); exact(zaY rfl rfl (by omega) (by omega))) ?_
           refine zaH rfl rfl (fun hgd=>by(try rw [hgd]); exact(zbw rfl rfl)) ?_
           refine ph_y (zaX rfl rfl rfl) ?_
           refine zag (zae (T':=[(4,_),(6,_),(7,_),(9,_),(11,_),(12,_),(14,_),(16,_),(18,_),(19,_),(20,_),(21,_),(188,_)]) ⟨rfl,rfl,rfl,rfl,rfl,rfl,rfl,rfl,rfl,rfl,rfl,rfl,rfl,trivial⟩ ?_)
           refine zap rfl (fun hc188=>?_) (fun hc188=>?_)
           ·exfalso; simp only [Bool.and_eq_true,decide_eq_true_eq] at hc188; exact hfr hc188
           ·simp only [Bool.and_eq_false_iff,decide_eq_false_iff_not] at hc188
            refine zaq ?_
            refine zaa ?_
            refine gk_y rfl rfl (zaf rfl) ?_
            refine gk_y rfl rfl (zaY rfl rfl (by omega) (by omega)) ?_
            refine gk_y rfl rfl (zad rfl) ?_
            refine zag (zae (T':=[(4,_),(6,_),(7,_),(9,_),(11,_),(12,_),(14,_),(16,_),(18,_),(19,_),(20,_),(21,_)]) ⟨rfl,rfl,rfl,rfl,rfl,rfl,rfl,rfl,rfl,rfl,rfl,rfl,trivial⟩ ?_)
            exact za1 (j+1) ⟨rfl,rfl,rfl,rfl,rfl,rfl,rfl,rfl,rfl,rfl,rfl,rfl,trivial⟩ rfl ⟨by omega,by omega⟩ (by omega)
          ·have hc159:=of_decide_eq_false hc159
           refine za8 rfl ?_
           refine zaa ?_
           refine gk_y rfl rfl (zaf rfl) ?_
           refine gk_y rfl rfl (zaY rfl rfl (by omega) (by omega)) ?_
           refine gk_y rfl rfl (zad rfl) ?_
           refine zag (zae (T':=[(4,_),(6,_),(7,_),(9,_),(11,_),(12,_),(14,_),(16,_),(18,_),(19,_)]) ⟨rfl,rfl,rfl,rfl,rfl,rfl,rfl,rfl,rfl,rfl,trivial⟩ ?_)
           refine zaK 0 rfl ?_
           exact za1 (i+1,op+((zaN S2 V2 n).s.opens.getD i.toNat default).width) ⟨rfl,rfl,rfl,rfl,rfl,rfl,rfl,rfl,rfl,rfl,trivial⟩ rfl ⟨by omega,by omega,by rw [hsw,if_pos (show zj4 (zar S2 V2 n).s.height ((zaN S2 V2 n).s.opens.getD i.toNat default)=true from decide_eq_true htop),←g2],by omega,by omega⟩ (by simp only []; omega)
        ·
         refine zaq ?_
         refine zaa ?_
         refine gk_y rfl rfl (zaf rfl) ?_
         refine gk_y rfl rfl (zaY rfl rfl (by omega) (by omega)) ?_
         refine gk_y rfl rfl (zad rfl) ?_
         refine zag (zae (T':=[(4,_),(6,_),(7,_),(9,_),(11,_),(12,_),(14,_),(16,_),(18,_),(19,_)]) ⟨rfl,rfl,rfl,rfl,rfl,rfl,rfl,rfl,rfl,rfl,trivial⟩ ?_)
         refine zaK 0 rfl ?_
         exact za1 (i+1,op) ⟨rfl,rfl,rfl,rfl,rfl,rfl,rfl,rfl,rfl,rfl,trivial⟩ rfl ⟨by omega,by omega,by rw [hsw,if_neg (by rw [show zj4 (zar S2 V2 n).s.height ((zaN S2 V2 n).s.opens.getD i.toNat default)=false from decide_eq_false (of_decide_eq_false hc151)]; exact Bool.false_ne_true),←g2]; omega,by omega,by omega⟩ (by simp only []; omega)
       ·have hc136:=of_decide_eq_false hc136
        have hopW:op=sumW ((zaN S2 V2 n).s.opens.filter (zj4 (zar S2 V2 n).s.height)):=by rw [g2,List.take_of_length_le (by omega)]
        rcases Classical.em ((zar S2 V2 n).s.cope=0) with hz | hz
        ·
         refine za8 rfl ?_
         refine zac ?_
         refine zac ?_
         refine zaa ?_
         refine gk_y rfl rfl (zab zjW rfl) ?_
         refine gk_y rfl rfl (zah 3 tf5 rfl rfl rfl) ?_
         refine gk_y rfl rfl (zbQ (zbL rfl rfl) (by exact decide_eq_true hz)) ?_
         refine gk_y rfl rfl (zaf rfl) ?_
         refine zai rfl rfl rfl rfl (fun _=>?_) (fun h=>absurd h (by decide))
         refine gk_y rfl rfl (zaf rfl) ?_
         refine zai rfl rfl rfl rfl (fun _=>?_) (fun h=>absurd h (by decide))
         refine gk_y rfl rfl (zaV (Tryz.underlying73) rfl) ?_
         refine zai rfl rfl rfl rfl (fun _=>?_) (fun h=>absurd h (by decide))
         refine gk_y rfl rfl (zdB (b':=false) (zc6 rfl rfl) (by exact decide_eq_false (by rw [hK0 hz]; decide))) ?_
         refine gk_y rfl rfl (za5 rfl rfl rfl) ?_
         refine gk_y rfl rfl (zaf rfl) ?_
         refine zai rfl rfl rfl rfl (fun _=>?_) (fun h=>absurd h (by decide))
         refine gk_y rfl rfl (zab zjW rfl) ?_
         refine zai rfl rfl rfl rfl (fun _=>?_) (fun h=>absurd h (by decide))
         refine gk_y rfl rfl (zah 3 tf5 rfl rfl rfl) ?_
         refine zai rfl rfl rfl rfl (fun _=>?_) (fun h=>absurd h (by decide))
         refine gk_y rfl rfl (zdB (b':=false) (zcr rfl rfl) (by rw [decide_eq_true hz]; rfl)) ?_
         refine zai rfl rfl rfl rfl (fun _=>?_) (fun h=>absurd h (by decide))
         refine gk_y rfl rfl (zaf rfl) ?_
         refine zai rfl rfl rfl rfl (fun h=>absurd h (by decide)) (fun _=>?_)
         refine zai rfl rfl rfl rfl (fun h=>absurd h (by decide)) (fun _=>?_)
         refine zai rfl rfl rfl rfl (fun h=>absurd h (by decide)) (fun _=>?_)
         refine zai rfl rfl rfl rfl (fun h=>absurd h (by decide)) (fun _=>?_)
         refine zai rfl rfl rfl rfl (fun h=>absurd h (by decide)) (fun _=>?_)
         refine zai rfl rfl rfl rfl (fun h=>absurd h (by decide)) (fun _=>?_)
         refine zai rfl rfl rfl rfl (fun _=>?_) (fun h=>absurd h (by decide))
         refine gk_y rfl rfl (za5 rfl rfl rfl) ?_
         refine gk_y rfl rfl (za5 rfl rfl rfl) ?_
         refine zag (zae (T':=[(4,_),(6,_),(7,_),(11,_),(12,_),(14,_),(209,_)]) ⟨rfl,rfl,rfl,rfl,rfl,rfl,rfl,trivial⟩ ?_)
         refine zd8 rfl ?_
         refine zaq ?_
         refine zac ?_
         refine zac ?_
         refine zaa ?_
         refine gk_y rfl rfl (zad rfl) ?_
         refine zag (zae (T':=[(4,_),(6,_),(7,_),(11,_),(12,_),(14,_),(22,_)]) ⟨rfl,rfl,rfl,rfl,rfl,rfl,rfl,trivial⟩ ?_)
         refine zas ?_
         refine zbf (X:=Int) (fun(i:Int)=>[(4,.bool false),(6,.pointer (some ⟨b6,0,none⟩)),(7,.pointer (some ⟨b7,0,none⟩)),(11,.int .i64 (ziJ S2 V2 n)),(12,.slice p59.1 (zei S2 V2 n).length p59.2),(14,.slice p65.1 (zfC ((zar S2 V2 n).s)).length p65.2),(22,.int .i64 i)]) (fun(i:Int)=>[Row p65.1 2 p65.2 49 zbq (zfC ((zar S2 V2 n).s)),Row p59.1 1 p59.2 3 Go.Stn.encI (zei S2 V2 n),Row p53.1 3 p53.2 87 zcm (zcF S2 V2 n),Box b7 [.string (zar S2 V2 n).s.name,.int .i64 ((zar S2 V2 n).s.base),.int .i64 ((zar S2 V2 n).s.batter),.int .i64 ((zar S2 V2 n).s.height),.int .i64 ((zar S2 V2 n).s.skin),.slice p39.2.1 (zar S2 V2 n).s.heights.length p39.2.2,.int .i64 ((zar S2 V2 n).s.least),.int .i64 ((zar S2 V2 n).s.lap),.int .i64 ((zar S2 V2 n).s.run),.int .i64 ((zar S2 V2 n).s.every),.int .i64 ((zar S2 V2 n).s.at_),.int .i64 ((zar S2 V2 n).s.footing),.int .i64 ((zar S2 V2 n).s.spread),.int .u8 (zar S2 V2 n).s.cope,.int .i64 ((zar S2 V2 n).s.tall),.int .i64 ((zar S2 V2 n).s.short),.int .i64 ((zar S2 V2 n).s.thick),.int .i64 ((zar S2 V2 n).s.low),.int .i64 ((zar S2 V2 n).s.high),.int .i64 ((zar S2 V2 n).s.rood)] 41,Box b6 [.string (zaN S2 V2 n).s.name,.string (zaN S2 V2 n).s.sheet,.int .i64 ((zaN S2 V2 n).s.length),.slice p39.1.1 (zaN S2 V2 n).s.opens.length p39.1.2] 94,Row p39.1.1 5 p39.1.2 98 zba (zaN S2 V2 n).s.opens,Row p39.2.1 1 p39.2.2 3 Go.Stn.encI (zar S2 V2 n).s.heights,Row ra 20 rc 41 zbH S2,Go.K.Rows (rowH 3) S2,Row rb 4 rd 94 zbS V2,Go.K.Rows (rowO 98) V2,Box b5 [.slice ra S2.length rc,.slice rb V2.length rd] 31,Box b2 [.slice a S.length cap,.slice b V.length bcap] 25]) (fun(i:Int)=>(0≤i∧i≤(zei S2 V2 n).length)) (fun(i:Int)=>((zei S2 V2 n).length - i).toNat) 0 ⟨rfl,rfl,rfl,rfl,rfl,rfl,rfl,trivial⟩ rfl ?_ ?_
         ·exact⟨by omega,by omega⟩
         ·rintro i hI
          obtain⟨g0,g1⟩:=hI
          refine zac ?_
          refine zac ?_
          refine zaa ?_
          refine gk_y rfl rfl (zaf rfl) ?_
          refine gk_y rfl rfl (zaf rfl) ?_
          refine gk_y rfl rfl (zaV (Tryz.underlying35) rfl) ?_
          refine gk_y rfl rfl (zbw rfl rfl) ?_
          refine zag (zae (T':=[(4,_),(6,_),(7,_),(11,_),(12,_),(14,_),(22,_),(213,_)]) ⟨rfl,rfl,rfl,rfl,rfl,rfl,rfl,rfl,trivial⟩ ?_)
          refine zap rfl (fun hc213=>?_) (fun hc213=>?_)
          ·have hc213:=of_decide_eq_true hc213
           obtain⟨t1,t2,t3,t4,t5⟩:=hta i g0 hc213
           rcases Int.lt_or_le 0 i with hi0 | hi0
           ·
            obtain⟨t6,t7,t8⟩:=t5 hi0
            refine zaq ?_
            refine zac ?_
            refine zas ?_
            refine zac ?_
            refine zac ?_
            refine zbb 56 (fun _=>mixed) (by kernel_rfl) ?_
            refine ph_y (zaf rfl) ?_
            refine ph_y (zdB (b':=false) (zbw rfl rfl) (by exact decide_eq_false (by omega))) ?_
            refine ph_y (zaf rfl) ?_
            refine ziw rfl rfl (zaf rfl) ?_
            refine ziw rfl rfl (zaf rfl) ?_
            refine ziw rfl rfl (zaV (Tryz.underlying38) rfl) ?_
            refine ziw rfl rfl (zdB (b':=false) (zfx rfl rfl) (by exact decide_eq_false (by omega))) ?_
            refine ph_y (zdB (b':=false) (zaR rfl rfl rfl) (by rfl)) ?_
            refine ph_y (zaf rfl) ?_
            refine ziw rfl rfl (zaf rfl) ?_
            refine ziw rfl rfl (zaf rfl) ?_
            refine ziw rfl rfl (zaE se35 rfl rfl (fun _ hw=>(zam Go.Stn.encI_ok (hw.has (p:=1) rfl))) (by omega) (by omega)) ?_
            refine ziw rfl rfl (zcE tf3 rfl (fun _ hw=>(zam Go.Stn.encI_ok (hw.has (p:=1) rfl))) (by omega) (by omega) rfl) ?_
            refine ziw rfl rfl (zdB (b':=false) (zeT rfl rfl) (by exact decide_eq_false (by omega))) ?_
            refine ph_y (zdB (b':=false) (zaR rfl rfl rfl) (by rfl)) ?_
            refine ph_y (zaf rfl) ?_
            refine ziw rfl rfl (zaf rfl) ?_
            refine ziw rfl rfl (zaf rfl) ?_
            refine ziw rfl rfl (zaE se35 rfl rfl (fun _ hw=>(zam Go.Stn.encI_ok (hw.has (p:=1) rfl))) (by omega) (by omega)) ?_
            refine ziw rfl rfl (zcE tf3 rfl (fun _ hw=>(zam Go.Stn.encI_ok (hw.has (p:=1) rfl))) (by omega) (by omega) rfl) ?_
            refine ziw rfl rfl (zab zgo rfl) ?_
            refine ziw rfl rfl (zah 4 tf3 rfl rfl rfl) ?_
            refine ziw rfl rfl (zdB (b':=false) (zfx rfl rfl) (by exact decide_eq_false (by omega))) ?_
            refine ph_y (zdB (b':=false) (zaR rfl rfl rfl) (by rfl)) ?_
            refine ph_y (zaf rfl) ?_
            refine ziw rfl rfl (zaf rfl) ?_
            refine ziw rfl rfl (zbQ (zc6 rfl rfl) (by exact decide_eq_true hi0)) ?_
            refine ziw rfl rfl (zaf rfl) ?_
            refine ziw rfl rfl (zaf rfl) ?_
            refine ziw rfl rfl (zaf rfl) ?_
            refine ziw rfl rfl (zaE se35 rfl rfl (fun _ hw=>(zam Go.Stn.encI_ok (hw.has (p:=1) rfl))) (by omega) (by omega)) ?_
            refine ziw rfl rfl (zcE tf3 rfl (fun _ hw=>(zam Go.Stn.encI_ok (hw.has (p:=1) rfl))) (by omega) (by omega) rfl) ?_
            refine ziw rfl rfl (zaf rfl) ?_
            refine ziw rfl rfl (zaf rfl) ?_
            refine ziw rfl rfl (zfV rfl rfl (by omega) (by omega)) ?_
            refine ziw rfl rfl (zaE se35 rfl rfl (fun _ hw=>(zam Go.Stn.encI_ok (hw.has (p:=1) rfl))) (by omega) (by omega)) ?_
            refine ziw rfl rfl (zcE tf3 rfl (fun _ hw=>(zam Go.Stn.encI_ok (hw.has (p:=1) rfl))) (by omega) (by omega) rfl) ?_
            refine ziw rfl rfl (zdB (b':=false) (zeT rfl rfl) (by exact decide_eq_false (by omega))) ?_
            refine ziw rfl rfl (zaf rfl) ?_
            refine ziw rfl rfl (zaf rfl) ?_
            refine ziw rfl rfl (zaf rfl) ?_
            refine ziw rfl rfl (zaE se35 rfl rfl (fun _ hw=>(zam Go.Stn.encI_ok (hw.has (p:=1) rfl))) (by omega) (by omega)) ?_
            refine ziw rfl rfl (zcE tf3 rfl (fun _ hw=>(zam Go.Stn.encI_ok (hw.has (p:=1) rfl))) (by omega) (by omega) rfl) ?_
            refine ziw rfl rfl (zaf rfl) ?_
            refine ziw rfl rfl (zaf rfl) ?_
            refine ziw rfl rfl (zfV rfl rfl (by omega) (by omega)) ?_
            refine ziw rfl rfl (zaE se35 rfl rfl (fun _ hw=>(zam Go.Stn.encI_ok (hw.has (p:=1) rfl))) (by omega) (by omega)) ?_
            refine ziw rfl rfl (zcE tf3 rfl (fun _ hw=>(zam Go.Stn.encI_ok (hw.has (p:=1) rfl))) (by omega) (by omega) rfl) ?_
            refine ziw rfl rfl (zfV rfl rfl (by omega) (by omega)) ?_
            refine ziw rfl rfl (zab zhc rfl) ?_
            refine ziw rfl rfl (zah 3 tf3 rfl rfl rfl) ?_
            refine ziw rfl rfl (zxH rfl rfl (by omega)) ?_
            refine ziw rfl rfl (zdB (b':=false) (zcr rfl rfl) (by rw [decide_eq_true t7]; rfl)) ?_
            refine ziw rfl rfl (zaR rfl rfl rfl) ?_
            refine ziw rfl rfl (za5 rfl rfl rfl) ?_
            refine ph_y (zaR rfl rfl rfl) ?_
            refine zag (zae (T':=[(4,_),(6,_),(7,_),(11,_),(12,_),(14,_),(22,_),(271,_)]) ⟨rfl,rfl,rfl,rfl,rfl,rfl,rfl,rfl,trivial⟩ ?_)
            refine zd8 rfl ?_
            refine zaq ?_
            refine zac ?_
            refine zaa ?_
            refine gk_y rfl rfl (zad rfl) ?_
            refine zag (zae (T':=[(4,_),(6,_),(7,_),(11,_),(12,_),(14,_),(22,_),(23,_)]) ⟨rfl,rfl,rfl,rfl,rfl,rfl,rfl,rfl,trivial⟩ ?_)
            refine zas ?_
            refine zbf (X:=Int) (fun(j:Int)=>[(4,.bool false),(6,.pointer (some ⟨b6,0,none⟩)),(7,.pointer (some ⟨b7,0,none⟩)),(11,.int .i64 (ziJ S2 V2 n)),(12,.slice p59.1 (zei S2 V2 n).length p59.2),(14,.slice p65.1 (zfC ((zar S2 V2 n).s)).length p65.2),(22,.int .i64 i),(23,.int .i64 j)]) (fun(j:Int)=>[Row p65.1 2 p65.2 49 zbq (zfC ((zar S2 V2 n).s)),Row p59.1 1 p59.2 3 Go.Stn.encI (zei S2 V2 n),Row p53.1 3 p53.2 87 zcm (zcF S2 V2 n),Box b7 [.string (zar S2 V2 n).s.name,.int .i64 ((zar S2 V2 n).s.base),.int .i64 ((zar S2 V2 n).s.batter),.int .i64 ((zar S2 V2 n).s.height),.int .i64 ((zar S2 V2 n).s.skin),.slice p39.2.1 (zar S2 V2 n).s.heights.length p39.2.2,.int .i64 ((zar S2 V2 n).s.least),.int .i64 ((zar S2 V2 n).s.lap),.int .i64 ((zar S2 V2 n).s.run),.int .i64 ((zar S2 V2 n).s.every),.int .i64 ((zar S2 V2 n).s.at_),.int .i64 ((zar S2 V2 n).s.footing),.int .i64 ((zar S2 V2 n).s.spread),.int .u8 (zar S2 V2 n).s.cope,.int .i64 ((zar S2 V2 n).s.tall),.int .i64 ((zar S2 V2 n).s.short),.int .i64 ((zar S2 V2 n).s.thick),.int .i64 ((zar S2 V2 n).s.low),.int .i64 ((zar S2 V2 n).s.high),.int .i64 ((zar S2 V2 n).s.rood)] 41,Box b6 [.string (zaN S2 V2 n).s.name,.string (zaN S2 V2 n).s.sheet,.int .i64 ((zaN S2 V2 n).s.length),.slice p39.1.1 (zaN S2 V2 n).s.opens.length p39.1.2] 94,Row p39.1.1 5 p39.1.2 98 zba (zaN S2 V2 n).s.opens,Row p39.2.1 1 p39.2.2 3 Go.Stn.encI (zar S2 V2 n).s.heights,Row ra 20 rc 41 zbH S2,Go.K.Rows (rowH 3) S2,Row rb 4 rd 94 zbS V2,Go.K.Rows (rowO 98) V2,Box b5 [.slice ra S2.length rc,.slice rb V2.length rd] 31,Box b2 [.slice a S.length cap,.slice b V.length bcap] 25]) (fun(j:Int)=>(0≤j∧j≤(zaN S2 V2 n).s.opens.length)) (fun(j:Int)=>((zaN S2 V2 n).s.opens.length - j).toNat) 0 ⟨rfl,rfl,rfl,rfl,rfl,rfl,rfl,rfl,trivial⟩ rfl ?_ ?_
            ·exact⟨by omega,by omega⟩
            ·rintro j hI
             obtain⟨k0,k1⟩:=hI
             refine zac ?_
             refine zac ?_
             refine zaa ?_
             refine gk_y rfl rfl (zaf rfl) ?_
             refine gk_y rfl rfl (zab zhe rfl) ?_
             refine gk_y rfl rfl (zah 4 tf92 rfl rfl rfl) ?_
             refine gk_y rfl rfl (zaV (Tryz.underlying92) rfl) ?_
             refine gk_y rfl rfl (zbw rfl rfl) ?_
             refine zag (zae (T':=[(4,_),(6,_),(7,_),(11,_),(12,_),(14,_),(22,_),(23,_),(276,_)]) ⟨rfl,rfl,rfl,rfl,rfl,rfl,rfl,rfl,rfl,trivial⟩ ?_)
             refine zap rfl (fun hc276=>?_) (fun hc276=>?_)
             ·have hc276:=of_decide_eq_true hc276
              have hfo:=hWF.fit ((zaN S2 V2 n).s.opens.getD j.toNat default) (za0 (by omega))
              have o1:=hfo.a; have o2:=hfo.w; have o3:=hfo.h; have o4:=hfo.f
              refine zaq ?_
              refine zac ?_
              refine zas ?_
              refine zac ?_
              refine zaa ?_
              refine gk_y rfl rfl (zab zhe rfl) ?_
              refine gk_y rfl rfl (zah 4 tf92 rfl rfl rfl) ?_
              refine gk_y rfl rfl (zaf rfl) ?_
              refine gk_y rfl rfl (zaE se92 rfl rfl (fun _ hw=>(zam encOpn_ok (hw.has (p:=5) rfl))) (by omega) (by omega)) ?_
              refine gk_y rfl rfl (zbv (vs:=[_,_,_,_,_]) tf98 rfl (fun _ hw=>(zam encOpn_ok (hw.has (p:=5) rfl))) (by omega) (by omega) rfl) ?_
              refine zaG rfl rfl (zaL tf98 (zs:=[_,_,_,_,_]) rfl) fun b24=>?_
              refine zaA 0 tf98 rfl rfl (vs:=[_,_,_,_,_]) rfl rfl rfl rfl rfl ?_
              refine zag (zae (T':=[(4,_),(6,_),(7,_),(11,_),(12,_),(14,_),(22,_),(23,_),(24,_)]) ⟨rfl,rfl,rfl,rfl,rfl,rfl,rfl,rfl,rfl,trivial⟩ ?_)
              refine zac ?_
              refine zbb 42 (fun _=>mixed) (by kernel_rfl) ?_
              refine ph_y (zab zfe rfl) ?_
              refine ph_y (zah 0 tf3 rfl rfl rfl) ?_
              refine ph_y (zaf rfl) ?_
              refine ph_y (zaf rfl) ?_
              refine ph_y (zaE se38 rfl rfl (fun _ hw=>(zam zax (hw.has (p:=1) rfl))) (by omega) (by omega)) ?_
              refine ph_y (zbh zpx rfl (fun w hw=>zaO (i:=(ziJ S2 V2 n)) (zam zax (hw.has (p:=1) rfl)) (by omega) (by omega))) ?_
              refine ph_y (zbn tf3 rfl (fun _ hw=>(zam zax (hw.has (p:=1) rfl))) (by omega) (by omega) rfl) ?_
              refine ph_y (zbw rfl rfl) ?_
              refine ph_y (zaf rfl) ?_
              refine zaH rfl rfl (fun hgd=>by(try rw [hgd]); exact(zab zfe rfl)) ?_
              refine zaH rfl rfl (fun hgd=>by(try rw [hgd]); exact(zah 0 tf3 rfl rfl rfl)) ?_
              refine zaH rfl rfl (fun hgd=>by(try rw [hgd]); exact(zab zhg rfl)) ?_
              refine zaH rfl rfl (fun hgd=>by(try rw [hgd]); exact(zah 0 tf3 rfl rfl rfl)) ?_
              refine zaH rfl rfl (fun hgd=>by(try rw [hgd]); exact(zaY rfl rfl (by omega) (by omega))) ?_
              refine zaH rfl rfl (fun hgd=>by(try rw [hgd]); exact(zaf rfl)) ?_
              refine zaH rfl rfl (fun hgd=>by(try rw [hgd]); exact(zaf rfl)) ?_
              refine zaH rfl rfl (fun hgd=>by(try rw [hgd]); exact(zaE se38 rfl rfl (fun _ hw=>(zam zax (hw.has (p:=1) rfl))) (by omega) (by omega))) ?_
              refine zaH rfl rfl (fun hgd=>by(try rw [hgd]); exact(zbh zne rfl (fun w hw=>zaO (i:=(ziJ S2 V2 n)) (zam zax (hw.has (p:=1) rfl)) (by omega) (by omega)))) ?_
              refine zaH rfl rfl (fun hgd=>by(try rw [hgd]); exact(zbn tf3 rfl (fun _ hw=>(zam zax (hw.has (p:=1) rfl))) (by omega) (by omega) rfl)) ?_
              refine zaH rfl rfl (fun hgd=>by(try rw [hgd]); exact(zc6 rfl rfl)) ?_
              refine ph_y (zaX rfl rfl rfl) ?_
              refine ph_y (zaf rfl) ?_
              refine zaH rfl rfl (fun hgd=>by(try rw [hgd]); exact(zab zhf rfl)) ?_
              refine zaH rfl rfl (fun hgd=>by(try rw [hgd]); exact(zah 0 tf3 rfl rfl rfl)) ?_
              refine zaH rfl rfl (fun hgd=>by(try rw [hgd]); exact(zaf rfl)) ?_
              refine zaH rfl rfl (fun hgd=>by(try rw [hgd]); exact(zaf rfl)) ?_
              refine zaH rfl rfl (fun hgd=>by(try rw [hgd]); exact(zaE se35 rfl rfl (fun _ hw=>(zam Go.Stn.encI_ok (hw.has (p:=2) rfl))) (by omega) (by omega))) ?_
              refine zaH rfl rfl (fun hgd=>by(try rw [hgd]); exact(zcE tf3 rfl (fun _ hw=>(zam Go.Stn.encI_ok (hw.has (p:=2) rfl))) (by omega) (by omega) rfl)) ?_
              refine zaH rfl rfl (fun hgd=>by(try rw [hgd]); exact(zeT rfl rfl)) ?_
              refine ph_y (zaX rfl rfl rfl) ?_
              refine ph_y (zaf rfl) ?_
              refine zaH rfl rfl (fun hgd=>by(try rw [hgd]); exact(zaf rfl)) ?_
              refine zaH rfl rfl (fun hgd=>by(try rw [hgd]); exact(zaf rfl)) ?_
              refine zaH rfl rfl (fun hgd=>by(try rw [hgd]); exact(zaE se35 rfl rfl (fun _ hw=>(zam Go.Stn.encI_ok (hw.has (p:=2) rfl))) (by omega) (by omega))) ?_
              refine zaH rfl rfl (fun hgd=>by(try rw [hgd]); exact(zcE tf3 rfl (fun _ hw=>(zam Go.Stn.encI_ok (hw.has (p:=2) rfl))) (by omega) (by omega) rfl)) ?_
              refine zaH rfl rfl (fun hgd=>by(try rw [hgd]); exact(zab zhf rfl)) ?_
              refine zaH rfl rfl (fun hgd=>by(try rw [hgd]); exact(zah 0 tf3 rfl rfl rfl)) ?_
              refine zaH rfl rfl (fun hgd=>by(try rw [hgd]); exact(zab zji rfl)) ?_
              refine zaH rfl rfl (fun hgd=>by(try rw [hgd]); exact(zah 0 tf3 rfl rfl rfl)) ?_
              refine zaH rfl rfl (fun hgd=>by(try rw [hgd]); exact(zaY rfl rfl (by omega) (by omega))) ?_
              refine zaH rfl rfl (fun hgd=>by(try rw [hgd]); exact(zeT rfl rfl)) ?_
              refine ph_y (zaX rfl rfl rfl) ?_
              refine zag (zae (T':=[(4,_),(6,_),(7,_),(11,_),(12,_),(14,_),(22,_),(23,_),(325,_)]) ⟨rfl,rfl,rfl,rfl,rfl,rfl,rfl,rfl,rfl,trivial⟩ ?_)
              refine zap rfl (fun hc325=>?_) (fun hc325=>?_)
              ·exfalso; simp only [Bool.and_eq_true,decide_eq_true_eq] at hc325; exact t4 ((zaN S2 V2 n).s.opens.getD j.toNat default) (za0 (by omega)) (by unfold zgu; simp only [Bool.and_eq_true,decide_eq_true_eq]; exact hc325.1.1) ⟨hc325.1.2,hc325.2⟩
              ·simp only [Bool.and_eq_false_iff,decide_eq_false_iff_not] at hc325
               refine zaq ?_
               refine zaa ?_
               refine gk_y rfl rfl (zaf rfl) ?_
               refine gk_y rfl rfl (zaY rfl rfl (by omega) (by omega)) ?_
               refine gk_y rfl rfl (zad rfl) ?_
               refine zag (zae (T':=[(4,_),(6,_),(7,_),(11,_),(12,_),(14,_),(22,_),(23,_)]) ⟨rfl,rfl,rfl,rfl,rfl,rfl,rfl,rfl,trivial⟩ ?_)
               refine zaK 0 rfl ?_
               exact za1 (j+1) ⟨rfl,rfl,rfl,rfl,rfl,rfl,rfl,rfl,trivial⟩ rfl ⟨by omega,by omega⟩ (by omega)
             ·
              refine za8 rfl ?_
              refine zaa ?_
              refine gk_y rfl rfl (zaf rfl) ?_
              refine gk_y rfl rfl (zaY rfl rfl (by omega) (by omega)) ?_
              refine gk_y rfl rfl (zad rfl) ?_
              refine zag (zae (T':=[(4,_),(6,_),(7,_),(11,_),(12,_),(14,_),(22,_)]) ⟨rfl,rfl,rfl,rfl,rfl,rfl,rfl,trivial⟩ ?_)
              exact za1 (i+1) ⟨rfl,rfl,rfl,rfl,rfl,rfl,rfl,trivial⟩ rfl ⟨by omega,by omega⟩ (by omega)
           ·
            refine zaq ?_
            refine zac ?_
            refine zas ?_
            refine zac ?_
            refine zac ?_
            refine zbb 56 (fun _=>mixed) (by kernel_rfl) ?_
            refine ph_y (zaf rfl) ?_
            refine ph_y (zdB (b':=false) (zbw rfl rfl) (by exact decide_eq_false (by omega))) ?_
            refine ph_y (zaf rfl) ?_
            refine ziw rfl rfl (zaf rfl) ?_
            refine ziw rfl rfl (zaf rfl) ?_
            refine ziw rfl rfl (zaV (Tryz.underlying38) rfl) ?_
            refine ziw rfl rfl (zdB (b':=false) (zfx rfl rfl) (by exact decide_eq_false (by omega))) ?_
            refine ph_y (zdB (b':=false) (zaR rfl rfl rfl) (by rfl)) ?_
            refine ph_y (zaf rfl) ?_
            refine ziw rfl rfl (zaf rfl) ?_
            refine ziw rfl rfl (zaf rfl) ?_
            refine ziw rfl rfl (zaE se35 rfl rfl (fun _ hw=>(zam Go.Stn.encI_ok (hw.has (p:=1) rfl))) (by omega) (by omega)) ?_
            refine ziw rfl rfl (zcE tf3 rfl (fun _ hw=>(zam Go.Stn.encI_ok (hw.has (p:=1) rfl))) (by omega) (by omega) rfl) ?_
            refine ziw rfl rfl (zdB (b':=false) (zeT rfl rfl) (by exact decide_eq_false (by omega))) ?_
            refine ph_y (zdB (b':=false) (zaR rfl rfl rfl) (by rfl)) ?_
            refine ph_y (zaf rfl) ?_
            refine ziw rfl rfl (zaf rfl) ?_
            refine ziw rfl rfl (zaf rfl) ?_
            refine ziw rfl rfl (zaE se35 rfl rfl (fun _ hw=>(zam Go.Stn.encI_ok (hw.has (p:=1) rfl))) (by omega) (by omega)) ?_
            refine ziw rfl rfl (zcE tf3 rfl (fun _ hw=>(zam Go.Stn.encI_ok (hw.has (p:=1) rfl))) (by omega) (by omega) rfl) ?_
            refine ziw rfl rfl (zab zgo rfl) ?_
            refine ziw rfl rfl (zah 4 tf3 rfl rfl rfl) ?_
            refine ziw rfl rfl (zdB (b':=false) (zfx rfl rfl) (by exact decide_eq_false (by omega))) ?_
            refine ph_y (zdB (b':=false) (zaR rfl rfl rfl) (by rfl)) ?_
            refine ph_y (zaf rfl) ?_
            refine ziw rfl rfl (zaf rfl) ?_
            refine ziw rfl rfl (zdB (b':=false) (zc6 rfl rfl) (by exact decide_eq_false (by omega))) ?_
            refine ziw rfl rfl (zaf rfl) ?_
            refine zaH (v:=.slice p59.1 (zei S2 V2 n).length p59.2) rfl rfl (fun hgd=>absurd hgd (by decide)) ?_
            refine zaH (v:=.int .i64 i) rfl rfl (fun hgd=>absurd hgd (by decide)) ?_
            refine zaH (v:=.bool false) rfl rfl (fun hgd=>absurd hgd (by decide)) ?_
            refine zaH (v:=.int .i64 ((zei S2 V2 n).getD (i).toNat default)) rfl rfl (fun hgd=>absurd hgd (by decide)) ?_
            refine zaH (v:=.slice p59.1 (zei S2 V2 n).length p59.2) rfl rfl (fun hgd=>absurd hgd (by decide)) ?_
            refine zaH (v:=.int .i64 i) rfl rfl (fun hgd=>absurd hgd (by decide)) ?_
            refine zaH (v:=.int .i64 (i - 1)) rfl rfl (fun hgd=>absurd hgd (by decide)) ?_
            refine zaH (v:=.bool false) rfl rfl (fun hgd=>absurd hgd (by decide)) ?_
            refine zaH (v:=.int .i64 ((zei S2 V2 n).getD ((i - 1)).toNat default)) rfl rfl (fun hgd=>absurd hgd (by decide)) ?_
            refine zaH (v:=.bool (decide (((zei S2 V2 n).getD (i).toNat default)≤((zei S2 V2 n).getD ((i - 1)).toNat default)))) rfl rfl (fun hgd=>absurd hgd (by decide)) ?_
            refine zaH (v:=.bool (decide (((zei S2 V2 n).getD (i).toNat default)≤((zei S2 V2 n).getD ((i - 1)).toNat default)))) rfl rfl (fun hgd=>absurd hgd (by decide)) ?_
            refine zc0 (v:=.slice p59.1 (zei S2 V2 n).length p59.2) rfl rfl (fun hgd=>absurd hgd (by simp)) ?_
            refine zc0 (v:=.int .i64 i) rfl rfl (fun hgd=>absurd hgd (by simp)) ?_
            refine zc0 (v:=.bool false) rfl rfl (fun hgd=>absurd hgd (by simp)) ?_
            refine zc0 (v:=.int .i64 ((zei S2 V2 n).getD (i).toNat default)) rfl rfl (fun hgd=>absurd hgd (by simp)) ?_
            refine zc0 (v:=.slice p59.1 (zei S2 V2 n).length p59.2) rfl rfl (fun hgd=>absurd hgd (by simp)) ?_
            refine zc0 (v:=.int .i64 i) rfl rfl (fun hgd=>absurd hgd (by simp)) ?_
            refine zc0 (v:=.int .i64 (i - 1)) rfl rfl (fun hgd=>absurd hgd (by simp)) ?_
            refine zc0 (v:=.bool false) rfl rfl (fun hgd=>absurd hgd (by simp)) ?_
            refine zc0 (v:=.int .i64 ((zei S2 V2 n).getD ((i - 1)).toNat default)) rfl rfl (fun hgd=>absurd hgd (by simp)) ?_
            refine zc0 (v:=.int .i64 (((zei S2 V2 n).getD (i).toNat default) - ((zei S2 V2 n).getD ((i - 1)).toNat default))) rfl rfl (fun hgd=>absurd hgd (by simp)) ?_
            refine zc0 (v:=.pointer (some ⟨b7,9,none⟩)) rfl rfl (fun hgd=>absurd hgd (by simp)) ?_
            refine zc0 (v:=.int .i64 ((zar S2 V2 n).s.every)) rfl rfl (fun hgd=>absurd hgd (by simp)) ?_
            refine zc0 (v:=.int .i64 (Int.tmod (((zei S2 V2 n).getD (i).toNat default) - ((zei S2 V2 n).getD ((i - 1)).toNat default)) ((zar S2 V2 n).s.every))) rfl rfl (fun hgd=>absurd hgd (by simp)) ?_
            refine zc0 (v:=.bool (!decide ((Int.tmod (((zei S2 V2 n).getD (i).toNat default) - ((zei S2 V2 n).getD ((i - 1)).toNat default)) ((zar S2 V2 n).s.every))=0))) rfl rfl (fun hgd=>absurd hgd (by simp)) ?_
            refine zaH (v:=.bool ((decide (((zei S2 V2 n).getD (i).toNat default)≤((zei S2 V2 n).getD ((i - 1)).toNat default)))||(!decide ((Int.tmod (((zei S2 V2 n).getD (i).toNat default) - ((zei S2 V2 n).getD ((i - 1)).toNat default)) ((zar S2 V2 n).s.every))=0)))) rfl rfl (fun hgd=>absurd hgd (by decide)) ?_
            refine ziw rfl rfl (zaX rfl rfl rfl) ?_
            refine ph_y (zaR rfl rfl rfl) ?_
            refine zag (zae (T':=[(4,_),(6,_),(7,_),(11,_),(12,_),(14,_),(22,_),(271,_)]) ⟨rfl,rfl,rfl,rfl,rfl,rfl,rfl,rfl,trivial⟩ ?_)
            refine zd8 rfl ?_
            refine zaq ?_
            refine zac ?_
            refine zaa ?_
            refine gk_y rfl rfl (zad rfl) ?_
            refine zag (zae (T':=[(4,_),(6,_),(7,_),(11,_),(12,_),(14,_),(22,_),(23,_)]) ⟨rfl,rfl,rfl,rfl,rfl,rfl,rfl,rfl,trivial⟩ ?_)
            refine zas ?_
            refine zbf (X:=Int) (fun(j:Int)=>[(4,.bool false),(6,.pointer (some ⟨b6,0,none⟩)),(7,.pointer (some ⟨b7,0,none⟩)),(11,.int .i64 (ziJ S2 V2 n)),(12,.slice p59.1 (zei S2 V2 n).length p59.2),(14,.slice p65.1 (zfC ((zar S2 V2 n).s)).length p65.2),(22,.int .i64 i),(23,.int .i64 j)]) (fun(j:Int)=>[Row p65.1 2 p65.2 49 zbq (zfC ((zar S2 V2 n).s)),Row p59.1 1 p59.2 3 Go.Stn.encI (zei S2 V2 n),Row p53.1 3 p53.2 87 zcm (zcF S2 V2 n),Box b7 [.string (zar S2 V2 n).s.name,.int .i64 ((zar S2 V2 n).s.base),.int .i64 ((zar S2 V2 n).s.batter),.int .i64 ((zar S2 V2 n).s.height),.int .i64 ((zar S2 V2 n).s.skin),.slice p39.2.1 (zar S2 V2 n).s.heights.length p39.2.2,.int .i64 ((zar S2 V2 n).s.least),.int .i64 ((zar S2 V2 n).s.lap),.int .i64 ((zar S2 V2 n).s.run),.int .i64 ((zar S2 V2 n).s.every),.int .i64 ((zar S2 V2 n).s.at_),.int .i64 ((zar S2 V2 n).s.footing),.int .i64 ((zar S2 V2 n).s.spread),.int .u8 (zar S2 V2 n).s.cope,.int .i64 ((zar S2 V2 n).s.tall),.int .i64 ((zar S2 V2 n).s.short),.int .i64 ((zar S2 V2 n).s.thick),.int .i64 ((zar S2 V2 n).s.low),.int .i64 ((zar S2 V2 n).s.high),.int .i64 ((zar S2 V2 n).s.rood)] 41,Box b6 [.string (zaN S2 V2 n).s.name,.string (zaN S2 V2 n).s.sheet,.int .i64 ((zaN S2 V2 n).s.length),.slice p39.1.1 (zaN S2 V2 n).s.opens.length p39.1.2] 94,Row p39.1.1 5 p39.1.2 98 zba (zaN S2 V2 n).s.opens,Row p39.2.1 1 p39.2.2 3 Go.Stn.encI (zar S2 V2 n).s.heights,Row ra 20 rc 41 zbH S2,Go.K.Rows (rowH 3) S2,Row rb 4 rd 94 zbS V2,Go.K.Rows (rowO 98) V2,Box b5 [.slice ra S2.length rc,.slice rb V2.length rd] 31,Box b2 [.slice a S.length cap,.slice b V.length bcap] 25]) (fun(j:Int)=>(0≤j∧j≤(zaN S2 V2 n).s.opens.length)) (fun(j:Int)=>((zaN S2 V2 n).s.opens.length - j).toNat) 0 ⟨rfl,rfl,rfl,rfl,rfl,rfl,rfl,rfl,trivial⟩ rfl ?_ ?_
            ·exact⟨by omega,by omega⟩
            ·rintro j hI
             obtain⟨k0,k1⟩:=hI
             refine zac ?_
             refine zac ?_
             refine zaa ?_
             refine gk_y rfl rfl (zaf rfl) ?_
             refine gk_y rfl rfl (zab zhe rfl) ?_
             refine gk_y rfl rfl (zah 4 tf92 rfl rfl rfl) ?_
             refine gk_y rfl rfl (zaV (Tryz.underlying92) rfl) ?_
             refine gk_y rfl rfl (zbw rfl rfl) ?_
             refine zag (zae (T':=[(4,_),(6,_),(7,_),(11,_),(12,_),(14,_),(22,_),(23,_),(276,_)]) ⟨rfl,rfl,rfl,rfl,rfl,rfl,rfl,rfl,rfl,trivial⟩ ?_)
             refine zap rfl (fun hc276=>?_) (fun hc276=>?_)
             ·have hc276:=of_decide_eq_true hc276
              have hfo:=hWF.fit ((zaN S2 V2 n).s.opens.getD j.toNat default) (za0 (by omega))
              have o1:=hfo.a; have o2:=hfo.w; have o3:=hfo.h; have o4:=hfo.f
              refine zaq ?_
              refine zac ?_
              refine zas ?_
              refine zac ?_
              refine zaa ?_
              refine gk_y rfl rfl (zab zhe rfl) ?_
              refine gk_y rfl rfl (zah 4 tf92 rfl rfl rfl) ?_
              refine gk_y rfl rfl (zaf rfl) ?_
              refine gk_y rfl rfl (zaE se92 rfl rfl (fun _ hw=>(zam encOpn_ok (hw.has (p:=5) rfl))) (by omega) (by omega)) ?_
              refine gk_y rfl rfl (zbv (vs:=[_,_,_,_,_]) tf98 rfl (fun _ hw=>(zam encOpn_ok (hw.has (p:=5) rfl))) (by omega) (by omega) rfl) ?_
              refine zaG rfl rfl (zaL tf98 (zs:=[_,_,_,_,_]) rfl) fun b24=>?_
              refine zaA 0 tf98 rfl rfl (vs:=[_,_,_,_,_]) rfl rfl rfl rfl rfl ?_
              refine zag (zae (T':=[(4,_),(6,_),(7,_),(11,_),(12,_),(14,_),(22,_),(23,_),(24,_)]) ⟨rfl,rfl,rfl,rfl,rfl,rfl,rfl,rfl,rfl,trivial⟩ ?_)
              refine zac ?_
              refine zbb 42 (fun _=>mixed) (by kernel_rfl) ?_
              refine ph_y (zab zfe rfl) ?_
              refine ph_y (zah 0 tf3 rfl rfl rfl) ?_
              refine ph_y (zaf rfl) ?_
              refine ph_y (zaf rfl) ?_
              refine ph_y (zaE se38 rfl rfl (fun _ hw=>(zam zax (hw.has (p:=1) rfl))) (by omega) (by omega)) ?_
              refine ph_y (zbh zpx rfl (fun w hw=>zaO (i:=(ziJ S2 V2 n)) (zam zax (hw.has (p:=1) rfl)) (by omega) (by omega))) ?_
              refine ph_y (zbn tf3 rfl (fun _ hw=>(zam zax (hw.has (p:=1) rfl))) (by omega) (by omega) rfl) ?_
              refine ph_y (zbw rfl rfl) ?_
              refine ph_y (zaf rfl) ?_
              refine zaH rfl rfl (fun hgd=>by(try rw [hgd]); exact(zab zfe rfl)) ?_
              refine zaH rfl rfl (fun hgd=>by(try rw [hgd]); exact(zah 0 tf3 rfl rfl rfl)) ?_
              refine zaH rfl rfl (fun hgd=>by(try rw [hgd]); exact(zab zhg rfl)) ?_
              refine zaH rfl rfl (fun hgd=>by(try rw [hgd]); exact(zah 0 tf3 rfl rfl rfl)) ?_
              refine zaH rfl rfl (fun hgd=>by(try rw [hgd]); exact(zaY rfl rfl (by omega) (by omega))) ?_
              refine zaH rfl rfl (fun hgd=>by(try rw [hgd]); exact(zaf rfl)) ?_
              refine zaH rfl rfl (fun hgd=>by(try rw [hgd]); exact(zaf rfl)) ?_
              refine zaH rfl rfl (fun hgd=>by(try rw [hgd]); exact(zaE se38 rfl rfl (fun _ hw=>(zam zax (hw.has (p:=1) rfl))) (by omega) (by omega))) ?_
              refine zaH rfl rfl (fun hgd=>by(try rw [hgd]); exact(zbh zne rfl (fun w hw=>zaO (i:=(ziJ S2 V2 n)) (zam zax (hw.has (p:=1) rfl)) (by omega) (by omega)))) ?_
              refine zaH rfl rfl (fun hgd=>by(try rw [hgd]); exact(zbn tf3 rfl (fun _ hw=>(zam zax (hw.has (p:=1) rfl))) (by omega) (by omega) rfl)) ?_
              refine zaH rfl rfl (fun hgd=>by(try rw [hgd]); exact(zc6 rfl rfl)) ?_
              refine ph_y (zaX rfl rfl rfl) ?_
              refine ph_y (zaf rfl) ?_
              refine zaH rfl rfl (fun hgd=>by(try rw [hgd]); exact(zab zhf rfl)) ?_
              refine zaH rfl rfl (fun hgd=>by(try rw [hgd]); exact(zah 0 tf3 rfl rfl rfl)) ?_
              refine zaH rfl rfl (fun hgd=>by(try rw [hgd]); exact(zaf rfl)) ?_
              refine zaH rfl rfl (fun hgd=>by(try rw [hgd]); exact(zaf rfl)) ?_
              refine zaH rfl rfl (fun hgd=>by(try rw [hgd]); exact(zaE se35 rfl rfl (fun _ hw=>(zam Go.Stn.encI_ok (hw.has (p:=2) rfl))) (by omega) (by omega))) ?_
              refine zaH rfl rfl (fun hgd=>by(try rw [hgd]); exact(zcE tf3 rfl (fun _ hw=>(zam Go.Stn.encI_ok (hw.has (p:=2) rfl))) (by omega) (by omega) rfl)) ?_
              refine zaH rfl rfl (fun hgd=>by(try rw [hgd]); exact(zeT rfl rfl)) ?_
              refine ph_y (zaX rfl rfl rfl) ?_
              refine ph_y (zaf rfl) ?_
              refine zaH rfl rfl (fun hgd=>by(try rw [hgd]); exact(zaf rfl)) ?_
              refine zaH rfl rfl (fun hgd=>by(try rw [hgd]); exact(zaf rfl)) ?_
              refine zaH rfl rfl (fun hgd=>by(try rw [hgd]); exact(zaE se35 rfl rfl (fun _ hw=>(zam Go.Stn.encI_ok (hw.has (p:=2) rfl))) (by omega) (by omega))) ?_
              refine zaH rfl rfl (fun hgd=>by(try rw [hgd]); exact(zcE tf3 rfl (fun _ hw=>(zam Go.Stn.encI_ok (hw.has (p:=2) rfl))) (by omega) (by omega) rfl)) ?_
              refine zaH rfl rfl (fun hgd=>by(try rw [hgd]); exact(zab zhf rfl)) ?_
              refine zaH rfl rfl (fun hgd=>by(try rw [hgd]); exact(zah 0 tf3 rfl rfl rfl)) ?_
              refine zaH rfl rfl (fun hgd=>by(try rw [hgd]); exact(zab zji rfl)) ?_
              refine zaH rfl rfl (fun hgd=>by(try rw [hgd]); exact(zah 0 tf3 rfl rfl rfl)) ?_
              refine zaH rfl rfl (fun hgd=>by(try rw [hgd]); exact(zaY rfl rfl (by omega) (by omega))) ?_
              refine zaH rfl rfl (fun hgd=>by(try rw [hgd]); exact(zeT rfl rfl)) ?_
              refine ph_y (zaX rfl rfl rfl) ?_
              refine zag (zae (T':=[(4,_),(6,_),(7,_),(11,_),(12,_),(14,_),(22,_),(23,_),(325,_)]) ⟨rfl,rfl,rfl,rfl,rfl,rfl,rfl,rfl,rfl,trivial⟩ ?_)
              refine zap rfl (fun hc325=>?_) (fun hc325=>?_)
              ·exfalso; simp only [Bool.and_eq_true,decide_eq_true_eq] at hc325; exact t4 ((zaN S2 V2 n).s.opens.getD j.toNat default) (za0 (by omega)) (by unfold zgu; simp only [Bool.and_eq_true,decide_eq_true_eq]; exact hc325.1.1) ⟨hc325.1.2,hc325.2⟩
              ·simp only [Bool.and_eq_false_iff,decide_eq_false_iff_not] at hc325
               refine zaq ?_
               refine zaa ?_
               refine gk_y rfl rfl (zaf rfl) ?_
               refine gk_y rfl rfl (zaY rfl rfl (by omega) (by omega)) ?_
               refine gk_y rfl rfl (zad rfl) ?_
               refine zag (zae (T':=[(4,_),(6,_),(7,_),(11,_),(12,_),(14,_),(22,_),(23,_)]) ⟨rfl,rfl,rfl,rfl,rfl,rfl,rfl,rfl,trivial⟩ ?_)
               refine zaK 0 rfl ?_
               exact za1 (j+1) ⟨rfl,rfl,rfl,rfl,rfl,rfl,rfl,rfl,trivial⟩ rfl ⟨by omega,by omega⟩ (by omega)
             ·
              refine za8 rfl ?_
              refine zaa ?_
              refine gk_y rfl rfl (zaf rfl) ?_
              refine gk_y rfl rfl (zaY rfl rfl (by omega) (by omega)) ?_
              refine gk_y rfl rfl (zad rfl) ?_
              refine zag (zae (T':=[(4,_),(6,_),(7,_),(11,_),(12,_),(14,_),(22,_)]) ⟨rfl,rfl,rfl,rfl,rfl,rfl,rfl,trivial⟩ ?_)
              exact za1 (i+1) ⟨rfl,rfl,rfl,rfl,rfl,rfl,rfl,trivial⟩ rfl ⟨by omega,by omega⟩ (by omega)
          ·
           refine za8 rfl ?_
           refine zac ?_
           refine zaa ?_
           refine gk_y rfl rfl (zaJ en13 rfl (fun w hw=>zkw w (Rd.has (Has.rd hmx) hw) (Rd.has (Has.rd hcp) hw) (Rd.has (Has.rd hop) hw))) ?_
           refine gk_y rfl rfl (zad rfl) ?_
           refine zag (zae (T':=[(4,_)]) ⟨rfl,trivial⟩ ?_)
           refine zaw ?_
           refine zay (zaC rfl (zau rfl)) ?_
           rfl
        ·
         refine za8 rfl ?_
         refine zac ?_
         refine zac ?_
         refine zaa ?_
         refine gk_y rfl rfl (zab zjW rfl) ?_
         refine gk_y rfl rfl (zah 3 tf5 rfl rfl rfl) ?_
         refine gk_y rfl rfl (zdB (b':=false) (zbL rfl rfl) (by exact decide_eq_false hz)) ?_
         refine gk_y rfl rfl (zaf rfl) ?_
         refine zai rfl rfl rfl rfl (fun h=>absurd h (by decide)) (fun _=>?_)
         refine zai rfl rfl rfl rfl (fun h=>absurd h (by decide)) (fun _=>?_)
         refine zai rfl rfl rfl rfl (fun h=>absurd h (by decide)) (fun _=>?_)
         refine gk_y rfl rfl (za5 rfl rfl rfl) ?_
         refine gk_y rfl rfl (zaf rfl) ?_
         refine zai rfl rfl rfl rfl (fun _=>?_) (fun h=>absurd h (by decide))
         refine gk_y rfl rfl (zab zjW rfl) ?_
         refine zai rfl rfl rfl rfl (fun _=>?_) (fun h=>absurd h (by decide))
         refine gk_y rfl rfl (zah 3 tf5 rfl rfl rfl) ?_
         refine zai rfl rfl rfl rfl (fun _=>?_) (fun h=>absurd h (by decide))
         refine gk_y rfl rfl (zbQ (zcr rfl rfl) (by rw [decide_eq_false hz]; rfl)) ?_
         refine zai rfl rfl rfl rfl (fun _=>?_) (fun h=>absurd h (by decide))
         refine gk_y rfl rfl (zaf rfl) ?_
         refine zai rfl rfl rfl rfl (fun _=>?_) (fun h=>absurd h (by decide))
         refine gk_y rfl rfl (zaf rfl) ?_
         refine zai rfl rfl rfl rfl (fun _=>?_) (fun h=>absurd h (by decide))
         refine gk_y rfl rfl (zaf rfl) ?_
         refine zai rfl rfl rfl rfl (fun _=>?_) (fun h=>absurd h (by decide))
         refine gk_y rfl rfl (zaY rfl rfl (by omega) (by omega)) ?_
         refine zai rfl rfl rfl rfl (fun _=>?_) (fun h=>absurd h (by decide))
         refine gk_y rfl rfl (zab zgo rfl) ?_
         refine zai rfl rfl rfl rfl (fun _=>?_) (fun h=>absurd h (by decide))
         refine gk_y rfl rfl (zah 4 tf3 rfl rfl rfl) ?_
         refine zai rfl rfl rfl rfl (fun _=>?_) (fun h=>absurd h (by decide))
         refine gk_y rfl rfl (zdB (b':=false) (zcr rfl rfl) (by rw [decide_eq_true (by have:=hcov hz; omega)]; rfl)) ?_
         refine zai rfl rfl rfl rfl (fun _=>?_) (fun h=>absurd h (by decide))
         refine gk_y rfl rfl (za5 rfl rfl rfl) ?_
         refine gk_y rfl rfl (za5 rfl rfl rfl) ?_
         refine zag (zae (T':=[(4,_),(6,_),(7,_),(11,_),(12,_),(14,_),(209,_)]) ⟨rfl,rfl,rfl,rfl,rfl,rfl,rfl,trivial⟩ ?_)
         refine zd8 rfl ?_
         refine zaq ?_
         refine zac ?_
         refine zac ?_
         refine zaa ?_
         refine gk_y rfl rfl (zad rfl) ?_
         refine zag (zae (T':=[(4,_),(6,_),(7,_),(11,_),(12,_),(14,_),(22,_)]) ⟨rfl,rfl,rfl,rfl,rfl,rfl,rfl,trivial⟩ ?_)
         refine zas ?_
         refine zbf (X:=Int) (fun(i:Int)=>[(4,.bool false),(6,.pointer (some ⟨b6,0,none⟩)),(7,.pointer (some ⟨b7,0,none⟩)),(11,.int .i64 (ziJ S2 V2 n)),(12,.slice p59.1 (zei S2 V2 n).length p59.2),(14,.slice p65.1 (zfC ((zar S2 V2 n).s)).length p65.2),(22,.int .i64 i)]) (fun(i:Int)=>[Row p65.1 2 p65.2 49 zbq (zfC ((zar S2 V2 n).s)),Row p59.1 1 p59.2 3 Go.Stn.encI (zei S2 V2 n),Row p53.1 3 p53.2 87 zcm (zcF S2 V2 n),Box b7 [.string (zar S2 V2 n).s.name,.int .i64 ((zar S2 V2 n).s.base),.int .i64 ((zar S2 V2 n).s.batter),.int .i64 ((zar S2 V2 n).s.height),.int .i64 ((zar S2 V2 n).s.skin),.slice p39.2.1 (zar S2 V2 n).s.heights.length p39.2.2,.int .i64 ((zar S2 V2 n).s.least),.int .i64 ((zar S2 V2 n).s.lap),.int .i64 ((zar S2 V2 n).s.run),.int .i64 ((zar S2 V2 n).s.every),.int .i64 ((zar S2 V2 n).s.at_),.int .i64 ((zar S2 V2 n).s.footing),.int .i64 ((zar S2 V2 n).s.spread),.int .u8 (zar S2 V2 n).s.cope,.int .i64 ((zar S2 V2 n).s.tall),.int .i64 ((zar S2 V2 n).s.short),.int .i64 ((zar S2 V2 n).s.thick),.int .i64 ((zar S2 V2 n).s.low),.int .i64 ((zar S2 V2 n).s.high),.int .i64 ((zar S2 V2 n).s.rood)] 41,Box b6 [.string (zaN S2 V2 n).s.name,.string (zaN S2 V2 n).s.sheet,.int .i64 ((zaN S2 V2 n).s.length),.slice p39.1.1 (zaN S2 V2 n).s.opens.length p39.1.2] 94,Row p39.1.1 5 p39.1.2 98 zba (zaN S2 V2 n).s.opens,Row p39.2.1 1 p39.2.2 3 Go.Stn.encI (zar S2 V2 n).s.heights,Row ra 20 rc 41 zbH S2,Go.K.Rows (rowH 3) S2,Row rb 4 rd 94 zbS V2,Go.K.Rows (rowO 98) V2,Box b5 [.slice ra S2.length rc,.slice rb V2.length rd] 31,Box b2 [.slice a S.length cap,.slice b V.length bcap] 25]) (fun(i:Int)=>(0≤i∧i≤(zei S2 V2 n).length)) (fun(i:Int)=>((zei S2 V2 n).length - i).toNat) 0 ⟨rfl,rfl,rfl,rfl,rfl,rfl,rfl,trivial⟩ rfl ?_ ?_
         ·exact⟨by omega,by omega⟩
         ·rintro i hI
          obtain⟨g0,g1⟩:=hI
          refine zac ?_
          refine zac ?_
          refine zaa ?_
          refine gk_y rfl rfl (zaf rfl) ?_
          refine gk_y rfl rfl (zaf rfl) ?_
          refine gk_y rfl rfl (zaV (Tryz.underlying35) rfl) ?_
          refine gk_y rfl rfl (zbw rfl rfl) ?_
          refine zag (zae (T':=[(4,_),(6,_),(7,_),(11,_),(12,_),(14,_),(22,_),(213,_)]) ⟨rfl,rfl,rfl,rfl,rfl,rfl,rfl,rfl,trivial⟩ ?_)
          refine zap rfl (fun hc213=>?_) (fun hc213=>?_)
          ·have hc213:=of_decide_eq_true hc213
           obtain⟨t1,t2,t3,t4,t5⟩:=hta i g0 hc213
           rcases Int.lt_or_le 0 i with hi0 | hi0
           ·
            obtain⟨t6,t7,t8⟩:=t5 hi0
            refine zaq ?_
            refine zac ?_
            refine zas ?_
            refine zac ?_
            refine zac ?_
            refine zbb 56 (fun _=>mixed) (by kernel_rfl) ?_
            refine ph_y (zaf rfl) ?_
            refine ph_y (zdB (b':=false) (zbw rfl rfl) (by exact decide_eq_false (by omega))) ?_
            refine ph_y (zaf rfl) ?_
            refine ziw rfl rfl (zaf rfl) ?_
            refine ziw rfl rfl (zaf rfl) ?_
            refine ziw rfl rfl (zaV (Tryz.underlying38) rfl) ?_
            refine ziw rfl rfl (zdB (b':=false) (zfx rfl rfl) (by exact decide_eq_false (by omega))) ?_
            refine ph_y (zdB (b':=false) (zaR rfl rfl rfl) (by rfl)) ?_
            refine ph_y (zaf rfl) ?_
            refine ziw rfl rfl (zaf rfl) ?_
            refine ziw rfl rfl (zaf rfl) ?_
            refine ziw rfl rfl (zaE se35 rfl rfl (fun _ hw=>(zam Go.Stn.encI_ok (hw.has (p:=1) rfl))) (by omega) (by omega)) ?_
            refine ziw rfl rfl (zcE tf3 rfl (fun _ hw=>(zam Go.Stn.encI_ok (hw.has (p:=1) rfl))) (by omega) (by omega) rfl) ?_
            refine ziw rfl rfl (zdB (b':=false) (zeT rfl rfl) (by exact decide_eq_false (by omega))) ?_
            refine ph_y (zdB (b':=false) (zaR rfl rfl rfl) (by rfl)) ?_
            refine ph_y (zaf rfl) ?_
            refine ziw rfl rfl (zaf rfl) ?_
            refine ziw rfl rfl (zaf rfl) ?_
            refine ziw rfl rfl (zaE se35 rfl rfl (fun _ hw=>(zam Go.Stn.encI_ok (hw.has (p:=1) rfl))) (by omega) (by omega)) ?_
            refine ziw rfl rfl (zcE tf3 rfl (fun _ hw=>(zam Go.Stn.encI_ok (hw.has (p:=1) rfl))) (by omega) (by omega) rfl) ?_
            refine ziw rfl rfl (zab zgo rfl) ?_
            refine ziw rfl rfl (zah 4 tf3 rfl rfl rfl) ?_
            refine ziw rfl rfl (zdB (b':=false) (zfx rfl rfl) (by exact decide_eq_false (by omega))) ?_
            refine ph_y (zdB (b':=false) (zaR rfl rfl rfl) (by rfl)) ?_
            refine ph_y (zaf rfl) ?_
            refine ziw rfl rfl (zaf rfl) ?_
            refine ziw rfl rfl (zbQ (zc6 rfl rfl) (by exact decide_eq_true hi0)) ?_
            refine ziw rfl rfl (zaf rfl) ?_
            refine ziw rfl rfl (zaf rfl) ?_
            refine ziw rfl rfl (zaf rfl) ?_
            refine ziw rfl rfl (zaE se35 rfl rfl (fun _ hw=>(zam Go.Stn.encI_ok (hw.has (p:=1) rfl))) (by omega) (by omega)) ?_
            refine ziw rfl rfl (zcE tf3 rfl (fun _ hw=>(zam Go.Stn.encI_ok (hw.has (p:=1) rfl))) (by omega) (by omega) rfl) ?_
            refine ziw rfl rfl (zaf rfl) ?_
            refine ziw rfl rfl (zaf rfl) ?_
            refine ziw rfl rfl (zfV rfl rfl (by omega) (by omega)) ?_
            refine ziw rfl rfl (zaE se35 rfl rfl (fun _ hw=>(zam Go.Stn.encI_ok (hw.has (p:=1) rfl))) (by omega) (by omega)) ?_
            refine ziw rfl rfl (zcE tf3 rfl (fun _ hw=>(zam Go.Stn.encI_ok (hw.has (p:=1) rfl))) (by omega) (by omega) rfl) ?_
            refine ziw rfl rfl (zdB (b':=false) (zeT rfl rfl) (by exact decide_eq_false (by omega))) ?_
            refine ziw rfl rfl (zaf rfl) ?_
            refine ziw rfl rfl (zaf rfl) ?_
            refine ziw rfl rfl (zaf rfl) ?_
            refine ziw rfl rfl (zaE se35 rfl rfl (fun _ hw=>(zam Go.Stn.encI_ok (hw.has (p:=1) rfl))) (by omega) (by omega)) ?_
            refine ziw rfl rfl (zcE tf3 rfl (fun _ hw=>(zam Go.Stn.encI_ok (hw.has (p:=1) rfl))) (by omega) (by omega) rfl) ?_
            refine ziw rfl rfl (zaf rfl) ?_
            refine ziw rfl rfl (zaf rfl) ?_
            refine ziw rfl rfl (zfV rfl rfl (by omega) (by omega)) ?_
            refine ziw rfl rfl (zaE se35 rfl rfl (fun _ hw=>(zam Go.Stn.encI_ok (hw.has (p:=1) rfl))) (by omega) (by omega)) ?_
            refine ziw rfl rfl (zcE tf3 rfl (fun _ hw=>(zam Go.Stn.encI_ok (hw.has (p:=1) rfl))) (by omega) (by omega) rfl) ?_
            refine ziw rfl rfl (zfV rfl rfl (by omega) (by omega)) ?_
            refine ziw rfl rfl (zab zhc rfl) ?_
            refine ziw rfl rfl (zah 3 tf3 rfl rfl rfl) ?_
            refine ziw rfl rfl (zxH rfl rfl (by omega)) ?_
            refine ziw rfl rfl (zdB (b':=false) (zcr rfl rfl) (by rw [decide_eq_true t7]; rfl)) ?_
            refine ziw rfl rfl (zaR rfl rfl rfl) ?_
            refine ziw rfl rfl (za5 rfl rfl rfl) ?_
            refine ph_y (zaR rfl rfl rfl) ?_
            refine zag (zae (T':=[(4,_),(6,_),(7,_),(11,_),(12,_),(14,_),(22,_),(271,_)]) ⟨rfl,rfl,rfl,rfl,rfl,rfl,rfl,rfl,trivial⟩ ?_)
            refine zd8 rfl ?_
            refine zaq ?_
            refine zac ?_
            refine zaa ?_
            refine gk_y rfl rfl (zad rfl) ?_
            refine zag (zae (T':=[(4,_),(6,_),(7,_),(11,_),(12,_),(14,_),(22,_),(23,_)]) ⟨rfl,rfl,rfl,rfl,rfl,rfl,rfl,rfl,trivial⟩ ?_)
            refine zas ?_
            refine zbf (X:=Int) (fun(j:Int)=>[(4,.bool false),(6,.pointer (some ⟨b6,0,none⟩)),(7,.pointer (some ⟨b7,0,none⟩)),(11,.int .i64 (ziJ S2 V2 n)),(12,.slice p59.1 (zei S2 V2 n).length p59.2),(14,.slice p65.1 (zfC ((zar S2 V2 n).s)).length p65.2),(22,.int .i64 i),(23,.int .i64 j)]) (fun(j:Int)=>[Row p65.1 2 p65.2 49 zbq (zfC ((zar S2 V2 n).s)),Row p59.1 1 p59.2 3 Go.Stn.encI (zei S2 V2 n),Row p53.1 3 p53.2 87 zcm (zcF S2 V2 n),Box b7 [.string (zar S2 V2 n).s.name,.int .i64 ((zar S2 V2 n).s.base),.int .i64 ((zar S2 V2 n).s.batter),.int .i64 ((zar S2 V2 n).s.height),.int .i64 ((zar S2 V2 n).s.skin),.slice p39.2.1 (zar S2 V2 n).s.heights.length p39.2.2,.int .i64 ((zar S2 V2 n).s.least),.int .i64 ((zar S2 V2 n).s.lap),.int .i64 ((zar S2 V2 n).s.run),.int .i64 ((zar S2 V2 n).s.every),.int .i64 ((zar S2 V2 n).s.at_),.int .i64 ((zar S2 V2 n).s.footing),.int .i64 ((zar S2 V2 n).s.spread),.int .u8 (zar S2 V2 n).s.cope,.int .i64 ((zar S2 V2 n).s.tall),.int .i64 ((zar S2 V2 n).s.short),.int .i64 ((zar S2 V2 n).s.thick),.int .i64 ((zar S2 V2 n).s.low),.int .i64 ((zar S2 V2 n).s.high),.int .i64 ((zar S2 V2 n).s.rood)] 41,Box b6 [.string (zaN S2 V2 n).s.name,.string (zaN S2 V2 n).s.sheet,.int .i64 ((zaN S2 V2 n).s.length),.slice p39.1.1 (zaN S2 V2 n).s.opens.length p39.1.2] 94,Row p39.1.1 5 p39.1.2 98 zba (zaN S2 V2 n).s.opens,Row p39.2.1 1 p39.2.2 3 Go.Stn.encI (zar S2 V2 n).s.heights,Row ra 20 rc 41 zbH S2,Go.K.Rows (rowH 3) S2,Row rb 4 rd 94 zbS V2,Go.K.Rows (rowO 98) V2,Box b5 [.slice ra S2.length rc,.slice rb V2.length rd] 31,Box b2 [.slice a S.length cap,.slice b V.length bcap] 25]) (fun(j:Int)=>(0≤j∧j≤(zaN S2 V2 n).s.opens.length)) (fun(j:Int)=>((zaN S2 V2 n).s.opens.length - j).toNat) 0 ⟨rfl,rfl,rfl,rfl,rfl,rfl,rfl,rfl,trivial⟩ rfl ?_ ?_
            ·exact⟨by omega,by omega⟩
            ·rintro j hI
             obtain⟨k0,k1⟩:=hI
             refine zac ?_
             refine zac ?_
             refine zaa ?_
             refine gk_y rfl rfl (zaf rfl) ?_
             refine gk_y rfl rfl (zab zhe rfl) ?_
             refine gk_y rfl rfl (zah 4 tf92 rfl rfl rfl) ?_
             refine gk_y rfl rfl (zaV (Tryz.underlying92) rfl) ?_
             refine gk_y rfl rfl (zbw rfl rfl) ?_
             refine zag (zae (T':=[(4,_),(6,_),(7,_),(11,_),(12,_),(14,_),(22,_),(23,_),(276,_)]) ⟨rfl,rfl,rfl,rfl,rfl,rfl,rfl,rfl,rfl,trivial⟩ ?_)
             refine zap rfl (fun hc276=>?_) (fun hc276=>?_)
             ·have hc276:=of_decide_eq_true hc276
              have hfo:=hWF.fit ((zaN S2 V2 n).s.opens.getD j.toNat default) (za0 (by omega))
              have o1:=hfo.a; have o2:=hfo.w; have o3:=hfo.h; have o4:=hfo.f
              refine zaq ?_
              refine zac ?_
              refine zas ?_
              refine zac ?_
              refine zaa ?_
              refine gk_y rfl rfl (zab zhe rfl) ?_
              refine gk_y rfl rfl (zah 4 tf92 rfl rfl rfl) ?_
              refine gk_y rfl rfl (zaf rfl) ?_
              refine gk_y rfl rfl (zaE se92 rfl rfl (fun _ hw=>(zam encOpn_ok (hw.has (p:=5) rfl))) (by omega) (by omega)) ?_
              refine gk_y rfl rfl (zbv (vs:=[_,_,_,_,_]) tf98 rfl (fun _ hw=>(zam encOpn_ok (hw.has (p:=5) rfl))) (by omega) (by omega) rfl) ?_
              refine zaG rfl rfl (zaL tf98 (zs:=[_,_,_,_,_]) rfl) fun b24=>?_
              refine zaA 0 tf98 rfl rfl (vs:=[_,_,_,_,_]) rfl rfl rfl rfl rfl ?_
              refine zag (zae (T':=[(4,_),(6,_),(7,_),(11,_),(12,_),(14,_),(22,_),(23,_),(24,_)]) ⟨rfl,rfl,rfl,rfl,rfl,rfl,rfl,rfl,rfl,trivial⟩ ?_)
              refine zac ?_
              refine zbb 42 (fun _=>mixed) (by kernel_rfl) ?_
              refine ph_y (zab zfe rfl) ?_
              refine ph_y (zah 0 tf3 rfl rfl rfl) ?_
              refine ph_y (zaf rfl) ?_
              refine ph_y (zaf rfl) ?_
              refine ph_y (zaE se38 rfl rfl (fun _ hw=>(zam zax (hw.has (p:=1) rfl))) (by omega) (by omega)) ?_
              refine ph_y (zbh zpx rfl (fun w hw=>zaO (i:=(ziJ S2 V2 n)) (zam zax (hw.has (p:=1) rfl)) (by omega) (by omega))) ?_
              refine ph_y (zbn tf3 rfl (fun _ hw=>(zam zax (hw.has (p:=1) rfl))) (by omega) (by omega) rfl) ?_
              refine ph_y (zbw rfl rfl) ?_
              refine ph_y (zaf rfl) ?_
              refine zaH rfl rfl (fun hgd=>by(try rw [hgd]); exact(zab zfe rfl)) ?_
              refine zaH rfl rfl (fun hgd=>by(try rw [hgd]); exact(zah 0 tf3 rfl rfl rfl)) ?_
              refine zaH rfl rfl (fun hgd=>by(try rw [hgd]); exact(zab zhg rfl)) ?_
              refine zaH rfl rfl (fun hgd=>by(try rw [hgd]); exact(zah 0 tf3 rfl rfl rfl)) ?_
              refine zaH rfl rfl (fun hgd=>by(try rw [hgd]); exact(zaY rfl rfl (by omega) (by omega))) ?_
              refine zaH rfl rfl (fun hgd=>by(try rw [hgd]); exact(zaf rfl)) ?_
              refine zaH rfl rfl (fun hgd=>by(try rw [hgd]); exact(zaf rfl)) ?_
              refine zaH rfl rfl (fun hgd=>by(try rw [hgd]); exact(zaE se38 rfl rfl (fun _ hw=>(zam zax (hw.has (p:=1) rfl))) (by omega) (by omega))) ?_
              refine zaH rfl rfl (fun hgd=>by(try rw [hgd]); exact(zbh zne rfl (fun w hw=>zaO (i:=(ziJ S2 V2 n)) (zam zax (hw.has (p:=1) rfl)) (by omega) (by omega)))) ?_
              refine zaH rfl rfl (fun hgd=>by(try rw [hgd]); exact(zbn tf3 rfl (fun _ hw=>(zam zax (hw.has (p:=1) rfl))) (by omega) (by omega) rfl)) ?_
              refine zaH rfl rfl (fun hgd=>by(try rw [hgd]); exact(zc6 rfl rfl)) ?_
              refine ph_y (zaX rfl rfl rfl) ?_
              refine ph_y (zaf rfl) ?_
              refine zaH rfl rfl (fun hgd=>by(try rw [hgd]); exact(zab zhf rfl)) ?_
              refine zaH rfl rfl (fun hgd=>by(try rw [hgd]); exact(zah 0 tf3 rfl rfl rfl)) ?_
              refine zaH rfl rfl (fun hgd=>by(try rw [hgd]); exact(zaf rfl)) ?_
              refine zaH rfl rfl (fun hgd=>by(try rw [hgd]); exact(zaf rfl)) ?_
              refine zaH rfl rfl (fun hgd=>by(try rw [hgd]); exact(zaE se35 rfl rfl (fun _ hw=>(zam Go.Stn.encI_ok (hw.has (p:=2) rfl))) (by omega) (by omega))) ?_
              refine zaH rfl rfl (fun hgd=>by(try rw [hgd]); exact(zcE tf3 rfl (fun _ hw=>(zam Go.Stn.encI_ok (hw.has (p:=2) rfl))) (by omega) (by omega) rfl)) ?_
              refine zaH rfl rfl (fun hgd=>by(try rw [hgd]); exact(zeT rfl rfl)) ?_
              refine ph_y (zaX rfl rfl rfl) ?_
              refine ph_y (zaf rfl) ?_
              refine zaH rfl rfl (fun hgd=>by(try rw [hgd]); exact(zaf rfl)) ?_
              refine zaH rfl rfl (fun hgd=>by(try rw [hgd]); exact(zaf rfl)) ?_
              refine zaH rfl rfl (fun hgd=>by(try rw [hgd]); exact(zaE se35 rfl rfl (fun _ hw=>(zam Go.Stn.encI_ok (hw.has (p:=2) rfl))) (by omega) (by omega))) ?_
              refine zaH rfl rfl (fun hgd=>by(try rw [hgd]); exact(zcE tf3 rfl (fun _ hw=>(zam Go.Stn.encI_ok (hw.has (p:=2) rfl))) (by omega) (by omega) rfl)) ?_
              refine zaH rfl rfl (fun hgd=>by(try rw [hgd]); exact(zab zhf rfl)) ?_
              refine zaH rfl rfl (fun hgd=>by(try rw [hgd]); exact(zah 0 tf3 rfl rfl rfl)) ?_
              refine zaH rfl rfl (fun hgd=>by(try rw [hgd]); exact(zab zji rfl)) ?_
              refine zaH rfl rfl (fun hgd=>by(try rw [hgd]); exact(zah 0 tf3 rfl rfl rfl)) ?_
              refine zaH rfl rfl (fun hgd=>by(try rw [hgd]); exact(zaY rfl rfl (by omega) (by omega))) ?_
              refine zaH rfl rfl (fun hgd=>by(try rw [hgd]); exact(zeT rfl rfl)) ?_
              refine ph_y (zaX rfl rfl rfl) ?_
              refine zag (zae (T':=[(4,_),(6,_),(7,_),(11,_),(12,_),(14,_),(22,_),(23,_),(325,_)]) ⟨rfl,rfl,rfl,rfl,rfl,rfl,rfl,rfl,rfl,trivial⟩ ?_)
              refine zap rfl (fun hc325=>?_) (fun hc325=>?_)
              ·exfalso; simp only [Bool.and_eq_true,decide_eq_true_eq] at hc325; exact t4 ((zaN S2 V2 n).s.opens.getD j.toNat default) (za0 (by omega)) (by unfold zgu; simp only [Bool.and_eq_true,decide_eq_true_eq]; exact hc325.1.1) ⟨hc325.1.2,hc325.2⟩
              ·simp only [Bool.and_eq_false_iff,decide_eq_false_iff_not] at hc325
               refine zaq ?_
               refine zaa ?_
               refine gk_y rfl rfl (zaf rfl) ?_
               refine gk_y rfl rfl (zaY rfl rfl (by omega) (by omega)) ?_
               refine gk_y rfl rfl (zad rfl) ?_
               refine zag (zae (T':=[(4,_),(6,_),(7,_),(11,_),(12,_),(14,_),(22,_),(23,_)]) ⟨rfl,rfl,rfl,rfl,rfl,rfl,rfl,rfl,trivial⟩ ?_)
               refine zaK 0 rfl ?_
               exact za1 (j+1) ⟨rfl,rfl,rfl,rfl,rfl,rfl,rfl,rfl,trivial⟩ rfl ⟨by omega,by omega⟩ (by omega)
             ·
              refine za8 rfl ?_
              refine zaa ?_
              refine gk_y rfl rfl (zaf rfl) ?_
              refine gk_y rfl rfl (zaY rfl rfl (by omega) (by omega)) ?_
              refine gk_y rfl rfl (zad rfl) ?_
              refine zag (zae (T':=[(4,_),(6,_),(7,_),(11,_),(12,_),(14,_),(22,_)]) ⟨rfl,rfl,rfl,rfl,rfl,rfl,rfl,trivial⟩ ?_)
              exact za1 (i+1) ⟨rfl,rfl,rfl,rfl,rfl,rfl,rfl,trivial⟩ rfl ⟨by omega,by omega⟩ (by omega)
           ·
            refine zaq ?_
            refine zac ?_
            refine zas ?_
            refine zac ?_
            refine zac ?_
            refine zbb 56 (fun _=>mixed) (by kernel_rfl) ?_
            refine ph_y (zaf rfl) ?_
            refine ph_y (zdB (b':=false) (zbw rfl rfl) (by exact decide_eq_false (by omega))) ?_
            refine ph_y (zaf rfl) ?_
            refine ziw rfl rfl (zaf rfl) ?_
            refine ziw rfl rfl (zaf rfl) ?_
            refine ziw rfl rfl (zaV (Tryz.underlying38) rfl) ?_
            refine ziw rfl rfl (zdB (b':=false) (zfx rfl rfl) (by exact decide_eq_false (by omega))) ?_
            refine ph_y (zdB (b':=false) (zaR rfl rfl rfl) (by rfl)) ?_
            refine ph_y (zaf rfl) ?_
            refine ziw rfl rfl (zaf rfl) ?_
            refine ziw rfl rfl (zaf rfl) ?_
            refine ziw rfl rfl (zaE se35 rfl rfl (fun _ hw=>(zam Go.Stn.encI_ok (hw.has (p:=1) rfl))) (by omega) (by omega)) ?_
            refine ziw rfl rfl (zcE tf3 rfl (fun _ hw=>(zam Go.Stn.encI_ok (hw.has (p:=1) rfl))) (by omega) (by omega) rfl) ?_
            refine ziw rfl rfl (zdB (b':=false) (zeT rfl rfl) (by exact decide_eq_false (by omega))) ?_
            refine ph_y (zdB (b':=false) (zaR rfl rfl rfl) (by rfl)) ?_
            refine ph_y (zaf rfl) ?_
            refine ziw rfl rfl (zaf rfl) ?_
            refine ziw rfl rfl (zaf rfl) ?_
            refine ziw rfl rfl (zaE se35 rfl rfl (fun _ hw=>(zam Go.Stn.encI_ok (hw.has (p:=1) rfl))) (by omega) (by omega)) ?_
            refine ziw rfl rfl (zcE tf3 rfl (fun _ hw=>(zam Go.Stn.encI_ok (hw.has (p:=1) rfl))) (by omega) (by omega) rfl) ?_
            refine ziw rfl rfl (zab zgo rfl) ?_
            refine ziw rfl rfl (zah 4 tf3 rfl rfl rfl) ?_
            refine ziw rfl rfl (zdB (b':=false) (zfx rfl rfl) (by exact decide_eq_false (by omega))) ?_
            refine ph_y (zdB (b':=false) (zaR rfl rfl rfl) (by rfl)) ?_
            refine ph_y (zaf rfl) ?_
            refine ziw rfl rfl (zaf rfl) ?_
            refine ziw rfl rfl (zdB (b':=false) (zc6 rfl rfl) (by exact decide_eq_false (by omega))) ?_
            refine ziw rfl rfl (zaf rfl) ?_
            refine zaH (v:=.slice p59.1 (zei S2 V2 n).length p59.2) rfl rfl (fun hgd=>absurd hgd (by decide)) ?_
            refine zaH (v:=.int .i64 i) rfl rfl (fun hgd=>absurd hgd (by decide)) ?_
            refine zaH (v:=.bool false) rfl rfl (fun hgd=>absurd hgd (by decide)) ?_
            refine zaH (v:=.int .i64 ((zei S2 V2 n).getD (i).toNat default)) rfl rfl (fun hgd=>absurd hgd (by decide)) ?_
            refine zaH (v:=.slice p59.1 (zei S2 V2 n).length p59.2) rfl rfl (fun hgd=>absurd hgd (by decide)) ?_
            refine zaH (v:=.int .i64 i) rfl rfl (fun hgd=>absurd hgd (by decide)) ?_
            refine zaH (v:=.int .i64 (i - 1)) rfl rfl (fun hgd=>absurd hgd (by decide)) ?_
            refine zaH (v:=.bool false) rfl rfl (fun hgd=>absurd hgd (by decide)) ?_
            refine zaH (v:=.int .i64 ((zei S2 V2 n).getD ((i - 1)).toNat default)) rfl rfl (fun hgd=>absurd hgd (by decide)) ?_
            refine zaH (v:=.bool (decide (((zei S2 V2 n).getD (i).toNat default)≤((zei S2 V2 n).getD ((i - 1)).toNat default)))) rfl rfl (fun hgd=>absurd hgd (by decide)) ?_
            refine zaH (v:=.bool (decide (((zei S2 V2 n).getD (i).toNat default)≤((zei S2 V2 n).getD ((i - 1)).toNat default)))) rfl rfl (fun hgd=>absurd hgd (by decide)) ?_
            refine zc0 (v:=.slice p59.1 (zei S2 V2 n).length p59.2) rfl rfl (fun hgd=>absurd hgd (by simp)) ?_
            refine zc0 (v:=.int .i64 i) rfl rfl (fun hgd=>absurd hgd (by simp)) ?_
            refine zc0 (v:=.bool false) rfl rfl (fun hgd=>absurd hgd (by simp)) ?_
            refine zc0 (v:=.int .i64 ((zei S2 V2 n).getD (i).toNat default)) rfl rfl (fun hgd=>absurd hgd (by simp)) ?_
            refine zc0 (v:=.slice p59.1 (zei S2 V2 n).length p59.2) rfl rfl (fun hgd=>absurd hgd (by simp)) ?_
            refine zc0 (v:=.int .i64 i) rfl rfl (fun hgd=>absurd hgd (by simp)) ?_
            refine zc0 (v:=.int .i64 (i - 1)) rfl rfl (fun hgd=>absurd hgd (by simp)) ?_
            refine zc0 (v:=.bool false) rfl rfl (fun hgd=>absurd hgd (by simp)) ?_
            refine zc0 (v:=.int .i64 ((zei S2 V2 n).getD ((i - 1)).toNat default)) rfl rfl (fun hgd=>absurd hgd (by simp)) ?_
            refine zc0 (v:=.int .i64 (((zei S2 V2 n).getD (i).toNat default) - ((zei S2 V2 n).getD ((i - 1)).toNat default))) rfl rfl (fun hgd=>absurd hgd (by simp)) ?_
            refine zc0 (v:=.pointer (some ⟨b7,9,none⟩)) rfl rfl (fun hgd=>absurd hgd (by simp)) ?_
            refine zc0 (v:=.int .i64 ((zar S2 V2 n).s.every)) rfl rfl (fun hgd=>absurd hgd (by simp)) ?_
            refine zc0 (v:=.int .i64 (Int.tmod (((zei S2 V2 n).getD (i).toNat default) - ((zei S2 V2 n).getD ((i - 1)).toNat default)) ((zar S2 V2 n).s.every))) rfl rfl (fun hgd=>absurd hgd (by simp)) ?_
            refine zc0 (v:=.bool (!decide ((Int.tmod (((zei S2 V2 n).getD (i).toNat default) - ((zei S2 V2 n).getD ((i - 1)).toNat default)) ((zar S2 V2 n).s.every))=0))) rfl rfl (fun hgd=>absurd hgd (by simp)) ?_
            refine zaH (v:=.bool ((decide (((zei S2 V2 n).getD (i).toNat default)≤((zei S2 V2 n).getD ((i - 1)).toNat default)))||(!decide ((Int.tmod (((zei S2 V2 n).getD (i).toNat default) - ((zei S2 V2 n).getD ((i - 1)).toNat default)) ((zar S2 V2 n).s.every))=0)))) rfl rfl (fun hgd=>absurd hgd (by decide)) ?_
            refine ziw rfl rfl (zaX rfl rfl rfl) ?_
            refine ph_y (zaR rfl rfl rfl) ?_
            refine zag (zae (T':=[(4,_),(6,_),(7,_),(11,_),(12,_),(14,_),(22,_),(271,_)]) ⟨rfl,rfl,rfl,rfl,rfl,rfl,rfl,rfl,trivial⟩ ?_)
            refine zd8 rfl ?_
            refine zaq ?_
            refine zac ?_
            refine zaa ?_
            refine gk_y rfl rfl (zad rfl) ?_
            refine zag (zae (T':=[(4,_),(6,_),(7,_),(11,_),(12,_),(14,_),(22,_),(23,_)]) ⟨rfl,rfl,rfl,rfl,rfl,rfl,rfl,rfl,trivial⟩ ?_)
            refine zas ?_
            refine zbf (X:=Int) (fun(j:Int)=>[(4,.bool false),(6,.pointer (some ⟨b6,0,none⟩)),(7,.pointer (some ⟨b7,0,none⟩)),(11,.int .i64 (ziJ S2 V2 n)),(12,.slice p59.1 (zei S2 V2 n).length p59.2),(14,.slice p65.1 (zfC ((zar S2 V2 n).s)).length p65.2),(22,.int .i64 i),(23,.int .i64 j)]) (fun(j:Int)=>[Row p65.1 2 p65.2 49 zbq (zfC ((zar S2 V2 n).s)),Row p59.1 1 p59.2 3 Go.Stn.encI (zei S2 V2 n),Row p53.1 3 p53.2 87 zcm (zcF S2 V2 n),Box b7 [.string (zar S2 V2 n).s.name,.int .i64 ((zar S2 V2 n).s.base),.int .i64 ((zar S2 V2 n).s.batter),.int .i64 ((zar S2 V2 n).s.height),.int .i64 ((zar S2 V2 n).s.skin),.slice p39.2.1 (zar S2 V2 n).s.heights.length p39.2.2,.int .i64 ((zar S2 V2 n).s.least),.int .i64 ((zar S2 V2 n).s.lap),.int .i64 ((zar S2 V2 n).s.run),.int .i64 ((zar S2 V2 n).s.every),.int .i64 ((zar S2 V2 n).s.at_),.int .i64 ((zar S2 V2 n).s.footing),.int .i64 ((zar S2 V2 n).s.spread),.int .u8 (zar S2 V2 n).s.cope,.int .i64 ((zar S2 V2 n).s.tall),.int .i64 ((zar S2 V2 n).s.short),.int .i64 ((zar S2 V2 n).s.thick),.int .i64 ((zar S2 V2 n).s.low),.int .i64 ((zar S2 V2 n).s.high),.int .i64 ((zar S2 V2 n).s.rood)] 41,Box b6 [.string (zaN S2 V2 n).s.name,.string (zaN S2 V2 n).s.sheet,.int .i64 ((zaN S2 V2 n).s.length),.slice p39.1.1 (zaN S2 V2 n).s.opens.length p39.1.2] 94,Row p39.1.1 5 p39.1.2 98 zba (zaN S2 V2 n).s.opens,Row p39.2.1 1 p39.2.2 3 Go.Stn.encI (zar S2 V2 n).s.heights,Row ra 20 rc 41 zbH S2,Go.K.Rows (rowH 3) S2,Row rb 4 rd 94 zbS V2,Go.K.Rows (rowO 98) V2,Box b5 [.slice ra S2.length rc,.slice rb V2.length rd] 31,Box b2 [.slice a S.length cap,.slice b V.length bcap] 25]) (fun(j:Int)=>(0≤j∧j≤(zaN S2 V2 n).s.opens.length)) (fun(j:Int)=>((zaN S2 V2 n).s.opens.length - j).toNat) 0 ⟨rfl,rfl,rfl,rfl,rfl,rfl,rfl,rfl,trivial⟩ rfl ?_ ?_
            ·exact⟨by omega,by omega⟩
            ·rintro j hI
             obtain⟨k0,k1⟩:=hI
             refine zac ?_
             refine zac ?_
             refine zaa ?_
             refine gk_y rfl rfl (zaf rfl) ?_
             refine gk_y rfl rfl (zab zhe rfl) ?_
             refine gk_y rfl rfl (zah 4 tf92 rfl rfl rfl) ?_
             refine gk_y rfl rfl (zaV (Tryz.underlying92) rfl) ?_
             refine gk_y rfl rfl (zbw rfl rfl) ?_
             refine zag (zae (T':=[(4,_),(6,_),(7,_),(11,_),(12,_),(14,_),(22,_),(23,_),(276,_)]) ⟨rfl,rfl,rfl,rfl,rfl,rfl,rfl,rfl,rfl,trivial⟩ ?_)
             refine zap rfl (fun hc276=>?_) (fun hc276=>?_)
             ·have hc276:=of_decide_eq_true hc276
              have hfo:=hWF.fit ((zaN S2 V2 n).s.opens.getD j.toNat default) (za0 (by omega))
              have o1:=hfo.a; have o2:=hfo.w; have o3:=hfo.h; have o4:=hfo.f
              refine zaq ?_
              refine zac ?_
              refine zas ?_
              refine zac ?_
              refine zaa ?_
              refine gk_y rfl rfl (zab zhe rfl) ?_
              refine gk_y rfl rfl (zah 4 tf92 rfl rfl rfl) ?_
              refine gk_y rfl rfl (zaf rfl) ?_
              refine gk_y rfl rfl (zaE se92 rfl rfl (fun _ hw=>(zam encOpn_ok (hw.has (p:=5) rfl))) (by omega) (by omega)) ?_
              refine gk_y rfl rfl (zbv (vs:=[_,_,_,_,_]) tf98 rfl (fun _ hw=>(zam encOpn_ok (hw.has (p:=5) rfl))) (by omega) (by omega) rfl) ?_
              refine zaG rfl rfl (zaL tf98 (zs:=[_,_,_,_,_]) rfl) fun b24=>?_
              refine zaA 0 tf98 rfl rfl (vs:=[_,_,_,_,_]) rfl rfl rfl rfl rfl ?_
              refine zag (zae (T':=[(4,_),(6,_),(7,_),(11,_),(12,_),(14,_),(22,_),(23,_),(24,_)]) ⟨rfl,rfl,rfl,rfl,rfl,rfl,rfl,rfl,rfl,trivial⟩ ?_)
              refine zac ?_
              refine zbb 42 (fun _=>mixed) (by kernel_rfl) ?_
              refine ph_y (zab zfe rfl) ?_
              refine ph_y (zah 0 tf3 rfl rfl rfl) ?_
              refine ph_y (zaf rfl) ?_
              refine ph_y (zaf rfl) ?_
              refine ph_y (zaE se38 rfl rfl (fun _ hw=>(zam zax (hw.has (p:=1) rfl))) (by omega) (by omega)) ?_
              refine ph_y (zbh zpx rfl (fun w hw=>zaO (i:=(ziJ S2 V2 n)) (zam zax (hw.has (p:=1) rfl)) (by omega) (by omega))) ?_
              refine ph_y (zbn tf3 rfl (fun _ hw=>(zam zax (hw.has (p:=1) rfl))) (by omega) (by omega) rfl) ?_
              refine ph_y (zbw rfl rfl) ?_
              refine ph_y (zaf rfl) ?_
              refine zaH rfl rfl (fun hgd=>by(try rw [hgd]); exact(zab zfe rfl)) ?_
              refine zaH rfl rfl (fun hgd=>by(try rw [hgd]); exact(zah 0 tf3 rfl rfl rfl)) ?_
              refine zaH rfl rfl (fun hgd=>by(try rw [hgd]); exact(zab zhg rfl)) ?_
              refine zaH rfl rfl (fun hgd=>by(try rw [hgd]); exact(zah 0 tf3 rfl rfl rfl)) ?_
              refine zaH rfl rfl (fun hgd=>by(try rw [hgd]); exact(zaY rfl rfl (by omega) (by omega))) ?_
              refine zaH rfl rfl (fun hgd=>by(try rw [hgd]); exact(zaf rfl)) ?_
              refine zaH rfl rfl (fun hgd=>by(try rw [hgd]); exact(zaf rfl)) ?_
              refine zaH rfl rfl (fun hgd=>by(try rw [hgd]); exact(zaE se38 rfl rfl (fun _ hw=>(zam zax (hw.has (p:=1) rfl))) (by omega) (by omega))) ?_
              refine zaH rfl rfl (fun hgd=>by(try rw [hgd]); exact(zbh zne rfl (fun w hw=>zaO (i:=(ziJ S2 V2 n)) (zam zax (hw.has (p:=1) rfl)) (by omega) (by omega)))) ?_
              refine zaH rfl rfl (fun hgd=>by(try rw [hgd]); exact(zbn tf3 rfl (fun _ hw=>(zam zax (hw.has (p:=1) rfl))) (by omega) (by omega) rfl)) ?_
              refine zaH rfl rfl (fun hgd=>by(try rw [hgd]); exact(zc6 rfl rfl)) ?_
              refine ph_y (zaX rfl rfl rfl) ?_
              refine ph_y (zaf rfl) ?_
              refine zaH rfl rfl (fun hgd=>by(try rw [hgd]); exact(zab zhf rfl)) ?_
              refine zaH rfl rfl (fun hgd=>by(try rw [hgd]); exact(zah 0 tf3 rfl rfl rfl)) ?_
              refine zaH rfl rfl (fun hgd=>by(try rw [hgd]); exact(zaf rfl)) ?_
              refine zaH rfl rfl (fun hgd=>by(try rw [hgd]); exact(zaf rfl)) ?_
              refine zaH rfl rfl (fun hgd=>by(try rw [hgd]); exact(zaE se35 rfl rfl (fun _ hw=>(zam Go.Stn.encI_ok (hw.has (p:=2) rfl))) (by omega) (by omega))) ?_
              refine zaH rfl rfl (fun hgd=>by(try rw [hgd]); exact(zcE tf3 rfl (fun _ hw=>(zam Go.Stn.encI_ok (hw.has (p:=2) rfl))) (by omega) (by omega) rfl)) ?_
              refine zaH rfl rfl (fun hgd=>by(try rw [hgd]); exact(zeT rfl rfl)) ?_
              refine ph_y (zaX rfl rfl rfl) ?_
              refine ph_y (zaf rfl) ?_
              refine zaH rfl rfl (fun hgd=>by(try rw [hgd]); exact(zaf rfl)) ?_
              refine zaH rfl rfl (fun hgd=>by(try rw [hgd]); exact(zaf rfl)) ?_
              refine zaH rfl rfl (fun hgd=>by(try rw [hgd]); exact(zaE se35 rfl rfl (fun _ hw=>(zam Go.Stn.encI_ok (hw.has (p:=2) rfl))) (by omega) (by omega))) ?_
              refine zaH rfl rfl (fun hgd=>by(try rw [hgd]); exact(zcE tf3 rfl (fun _ hw=>(zam Go.Stn.encI_ok (hw.has (p:=2) rfl))) (by omega) (by omega) rfl)) ?_
              refine zaH rfl rfl (fun hgd=>by(try rw [hgd]); exact(zab zhf rfl)) ?_
              refine zaH rfl rfl (fun hgd=>by(try rw [hgd]); exact(zah 0 tf3 rfl rfl rfl)) ?_
              refine zaH rfl rfl (fun hgd=>by(try rw [hgd]); exact(zab zji rfl)) ?_
              refine zaH rfl rfl (fun hgd=>by(try rw [hgd]); exact(zah 0 tf3 rfl rfl rfl)) ?_
              refine zaH rfl rfl (fun hgd=>by(try rw [hgd]); exact(zaY rfl rfl (by omega) (by omega))) ?_
              refine zaH rfl rfl (fun hgd=>by(try rw [hgd]); exact(zeT rfl rfl)) ?_
              refine ph_y (zaX rfl rfl rfl) ?_
              refine zag (zae (T':=[(4,_),(6,_),(7,_),(11,_),(12,_),(14,_),(22,_),(23,_),(325,_)]) ⟨rfl,rfl,rfl,rfl,rfl,rfl,rfl,rfl,rfl,trivial⟩ ?_)
              refine zap rfl (fun hc325=>?_) (fun hc325=>?_)
              ·exfalso; simp only [Bool.and_eq_true,decide_eq_true_eq] at hc325; exact t4 ((zaN S2 V2 n).s.opens.getD j.toNat default) (za0 (by omega)) (by unfold zgu; simp only [Bool.and_eq_true,decide_eq_true_eq]; exact hc325.1.1) ⟨hc325.1.2,hc325.2⟩
              ·simp only [Bool.and_eq_false_iff,decide_eq_false_iff_not] at hc325
               refine zaq ?_
               refine zaa ?_
               refine gk_y rfl rfl (zaf rfl) ?_
               refine gk_y rfl rfl (zaY rfl rfl (by omega) (by omega)) ?_
               refine gk_y rfl rfl (zad rfl) ?_
               refine zag (zae (T':=[(4,_),(6,_),(7,_),(11,_),(12,_),(14,_),(22,_),(23,_)]) ⟨rfl,rfl,rfl,rfl,rfl,rfl,rfl,rfl,trivial⟩ ?_)
               refine zaK 0 rfl ?_
               exact za1 (j+1) ⟨rfl,rfl,rfl,rfl,rfl,rfl,rfl,rfl,trivial⟩ rfl ⟨by omega,by omega⟩ (by omega)
             ·
              refine za8 rfl ?_
              refine zaa ?_
              refine gk_y rfl rfl (zaf rfl) ?_
              refine gk_y rfl rfl (zaY rfl rfl (by omega) (by omega)) ?_
              refine gk_y rfl rfl (zad rfl) ?_
              refine zag (zae (T':=[(4,_),(6,_),(7,_),(11,_),(12,_),(14,_),(22,_)]) ⟨rfl,rfl,rfl,rfl,rfl,rfl,rfl,trivial⟩ ?_)
              exact za1 (i+1) ⟨rfl,rfl,rfl,rfl,rfl,rfl,rfl,trivial⟩ rfl ⟨by omega,by omega⟩ (by omega)
          ·
           refine za8 rfl ?_
           refine zac ?_
           refine zaa ?_
           refine gk_y rfl rfl (zaJ en13 rfl (fun w hw=>zkw w (Rd.has (Has.rd hmx) hw) (Rd.has (Has.rd hcp) hw) (Rd.has (Has.rd hop) hw))) ?_
           refine gk_y rfl rfl (zad rfl) ?_
           refine zag (zae (T':=[(4,_)]) ⟨rfl,trivial⟩ ?_)
           refine zaw ?_
           refine zay (zaC rfl (zau rfl)) ?_
           rfl
 ·replace hg28:_=true:=hg28
  try rw [hg28]
  refine zai rfl rfl rfl rfl (fun h=>absurd h (by decide)) (fun _=>?_)
  refine zai rfl rfl rfl rfl (fun h=>absurd h (by decide)) (fun _=>?_)
  refine gk_y rfl rfl (za5 rfl rfl rfl) ?_
  refine zag (zae (T':=[(1,_),(2,_),(4,_),(32,_)]) ⟨rfl,rfl,rfl,rfl,trivial⟩ ?_)
  refine zdg rfl ?_
  refine zac ?_
  refine zaa ?_
  refine gk_y rfl rfl (zaJ en13 rfl (fun w hw=>zkw w (Rd.has (Has.rd hmx) hw) (Rd.has (Has.rd hcp) hw) (Rd.has (Has.rd hop) hw))) ?_
  refine gk_y rfl rfl (zad rfl) ?_
  refine zag (zae (T':=[(1,_),(2,_),(4,_)]) ⟨rfl,rfl,rfl,trivial⟩ ?_)
  refine zaw ?_
  refine zay (zaC rfl (zau rfl)) ?_
  rfl
end Go.Proofs.YtdcfcfhmkfkgmaaGreatDoor
namespace Go.K
open Go Go.Stn Go.ChangeShapes Go.WideShapes Go.ChangeAt Go.WideElems Go.RowKit
theorem zp6 {α:Type} {Q:Nat→α→Prop}:∀ n,(∀ i,i < n→∃ x,Q i x)→∃ l:List α,l.length=n∧∀ i x,l[i]?=some x→Q i x
 | 0,_=>⟨[],rfl,fun i x h=>by simp at h⟩
 | n+1,h=>by
  obtain⟨l,hl,hq⟩:=zp6 n (fun i hi=>h i (by omega))
  obtain⟨x,hx⟩:=h n (by omega)
  refine⟨l++[x],by simp [hl],fun i y hy=>?_⟩
  rcases Nat.lt_or_ge i n with hi | hi
  ·rw [List.getElem?_append_left (by omega)] at hy; exact hq i y hy
  ·rw [List.getElem?_append_right (by omega),hl] at hy
   have:i=n:=by
    rcases Nat.lt_or_ge n i with g | g
    ·rw [List.getElem?_eq_none (by simp; omega)] at hy; cases hy
    ·omega
   subst this
   simp at hy
   subst hy; exact hx
section
variable {H:Type} {enc:TypeId×Value→H} {P:Program}
theorem zgK (hl:laidOutB P=true) {W W':World} {sp':Nat→Bool}:∀ (ts:List TypeId) (vs:List Value) (ds:List (DataW H)) (ps:List MemPlace),(∀ t∈ts,P.readableRec t=true∧t < P.types.size) →
  DataW.TrodAll enc P W 0 (fun _=>true) true ts vs ds ps→(∀ p∈ps,W.sameAt W' p)→(∀ p∈ps,sp' p.block=true)→DataW.TrodAll enc P W' 0 sp' true ts vs ds ps
 | [],[],[],ps,_,h,_,_=>h
 | t :: ts,v :: vs,d :: ds,ps,hr,⟨p,q,h1,h2,he⟩,hs,hsp=>by
  subst he
  exact⟨p,q,Trod_stays hl (hr t (List.mem_cons_self ..)).1 (hr t (List.mem_cons_self ..)).2 h1 (fun x hx=>hs x (List.mem_append_left _ hx)) (fun x hx=>hsp x (List.mem_append_left _ hx)),
   zgK hl ts vs ds q (fun x hx=>hr x (List.mem_cons_of_mem _ hx)) h2 (fun x hx=>hs x (List.mem_append_right _ hx)) (fun x hx=>hsp x (List.mem_append_right _ hx)),rfl⟩
 | [],[],_ :: _,_,_,h,_,_=>h.elim
 | [],_ :: _,_,_,_,h,_,_=>h.elim
 | _ :: _,[],_,_,_,h,_,_=>h.elim
 | _ :: _,_ :: _,[],_,_,h,_,_=>h.elim
theorem law_post {f:Func} {s:ChangeSpec} {apart fresh handsOn again:Bool} {W W':World} {args:Array Value} {ds:List (DataW H)} {before:List MemPlace} {tb:TypeId} (hl:laidOutB P=true)
  (hW:DataW.Whole enc P f.params.toList s.vars apart W args.toList ds [] before) (hvars:s.vars=[]) (hread:f.params.toList.all (fun t=>P.readableRec t&&decide (t < P.types.size))=true)
  (hfn:s.fn H (ds++[])={ results:=[.lit (.bool true)],args:=ds }) (hrt:f.resultTypes=#[tb]) (htb:P.underlying tb=some .bool) (hb:Ext W W'):s.post enc P f apart fresh handsOn again W args (.bool true) W':=by
 have hlt:∀ p∈before,p.block < W.heap.size:=fun p hp=>hW.lt p hp
 have hold:∀ p∈before,(fun b=>decide (b < W.heap.size)) p.block=true:=fun p hp=>by simpa using hlt p hp
 have hW0:=hW
 obtain⟨p,q,hA,hV,hpq,hz,hn⟩:=hW
 rw [hvars] at hV
 obtain⟨_,rfl⟩:=trodVars_none hV
 rw [List.append_nil] at hpq
 subst hpq
 have hr:∀ t∈f.params.toList,P.readableRec t=true∧t < P.types.size:=fun t ht=>by
  have:=List.all_eq_true.1 hread t ht
  simpa using this
 have hsame:∀ x∈before,W.sameAt W' x:=fun x hx=>by
  have hlx:=hlt x hx
  cases x with
  | cell b off=>exact hb.below.cell (p:=⟨b,off,none⟩) hlx
  | map b=>exact hb.block b hlx
 have hargs:∀ sp:Nat→Bool,(∀ p∈before,sp p.block=true)→DataW.TrodAll enc P W' 0 sp true f.params.toList args.toList ds before:=fun sp hsp=>zgK hl _ _ _ _ hr hA hsame hsp
 have hres:∀ (b:Nat) (sp:Nat→Bool) (hd:Bool),DataW.TrodAll enc P W' b sp hd f.resultTypes.toList ((Value.bool true).resultList f.resultTypes.size) [.lit (.bool true)] []:=fun b sp hd=>by
  rw [hrt]
  exact⟨[],[],⟨1,by simp [DataW.trod,Value.cells,htb]⟩,rfl,rfl⟩
 refine⟨ds,[],before,[],before,[],hW0,?_,?_,?_,World.keptBut_mono (fun p hp=>⟨hp,Or.inr (Or.inl hp)⟩) (hb.below.frame (·∈before)),fun _=>?_⟩
 ·rw [hfn]; exact hres _ _ _
 ·rw [hfn]; exact hargs _ hold
 ·rw [hfn,hvars]; rfl
 ·refine⟨fun j t r ht hrr=>?_,ds.cons (.lit (.bool true)),[],before,⟨before,[],?_,by rw [hvars]; rfl,by simp,?_,?_⟩,fun x hx _=>hx⟩
  ·rw [hrt] at ht hrr
   have h0:t=tb:=by
    rcases j with _ | j
    ·simpa using ht.symm
    ·simp at ht
   have h1:r=.bool true:=by
    rcases j with _ | j
    ·simpa [Value.resultList] using hrr.symm
    ·simp at ht
   subst h0; subst h1
   exact okWide_bool_mk htb true
  ·have h1:=trodAll_append (hargs (fun _=>true) (fun _ _=>rfl)) (hres 0 (fun _=>true) true)
   simpa using h1
  ·intro b off hp
   rw [hb.below.frozen (hlt _ hp)]
   exact hz b off (by simpa using hp)
  ·intro ha
   have:=hn ha
   simpa using this
end
end Go.K
namespace Go.Proofs.YtdcfcfhmkfkgmaaGreatDoor
open Go Go.K Go.Stn Go.Pln Go.ChangeShapes Go.WideShapes Go.ChangeAt Go.RowKit
theorem own:ownKnob Tryz.prog.godebug=none:=by kernel_rfl
theorem laidOut:laidOutB Tryz.prog=true:=by kernel_rfl
abbrev laidR:List (String×DataW Unit):=Rows.planChecksRow.laid
noncomputable def worldR (os:Os):World:=(World.doorLaid Tryz.prog 400 os).layVars Tryz.prog [("unicode/utf8.first",Go.Pinned.utf8First)]
theorem worldR_os (os:Os):(worldR os).os=os:=World.layVars_os _ _ _
theorem door_metR (os:Os) (args:Array Value):laidMetH Tryz.prog laidR ((worldR os).forCall (fun _ _=>0) ⟨#[],args,[]⟩).memory:=
 laidMetH_of_parts3 (fuel:=8) (laidMet_of_run' 8 (by kernel_rfl) (by kernel_rfl)) (by kernel_rfl) (by kernel_rfl)
section
variable {H:Type} {enc:TypeId×Value→H}
theorem returnsInHanded_of_change_and_shaped {a:Assume} {C:Checked} {os:Os} {f:FuncId} {fn:Func} {s:ChangeSpec} {conds:List PathCond} {apart fresh handsOn again:Bool} {X:World→Array Value→Prop}
  (hX:∀ (w w':World) (args:Array Value),w.heap=w'.heap→X w args→X w' args)
  (own:ownKnob C.prog.godebug=none) (started:os.Started) (noInit:C.prog.inits.idxOf? f=none) (hfn:C.prog.funcs[f]?=some fn)
  (witness:∃ (w:World) (tape:Tape) (i:Input),w.os=os∧(w.forCall tape i).Shaped C.prog∧i.vars=[]∧Input.okWide C.prog (w.forCall tape i) .any w.heap.size f i ∧
   ((s.pre enc C.prog fn conds apart (w.forCall tape i).memory i.args∧X (w.forCall tape i).memory i.args)∧sizedMet enc C.prog fn (OpenSpec.ofChange s) apart (w.forCall tape i).memory i.args)∧a.holds C.prog (lone (Frame.enter C.prog f i.args .normal) [] (w.forCall tape i)))
  (contract:∀ (W:World) (base:Nat) (args:Array Value) (ds gs:List (DataW H)) (before:List MemPlace),
   (∀ (j:Nat) t v,fn.params[j]?=some t→args[j]?=some v→Value.okWide C.prog W .any base t v) →
   DataW.Whole enc C.prog fn.params.toList s.vars apart W args.toList ds gs before →
   conds.all (PathCond.test C.prog ⟨fn.params.toList,ds,s.plain.varTypes C.prog,gs⟩)=true →
   (DataW.weightsEach C.prog (fn.params.toList++s.plain.varTypes C.prog) (ds++gs)).all (·≤reachBytes)=true→X W args →
   W.ShapedOpen C.prog →
   Calls C.prog f args W fun e W'=>∃ v,e=.returned v∧s.post enc C.prog fn apart fresh handsOn again W args v W') :
  ReturnsInHanded a C os f .any (fun w args=>(s.pre enc C.prog fn conds apart w args∧X w args)∧sizedMet enc C.prog fn (OpenSpec.ofChange s) apart w args) (s.post enc C.prog fn apart fresh handsOn again):=by
 refine returnsInHanded_of_calls own started noInit witness ?_
 intro w tape i _ hsh _ hok hpre _
 obtain⟨_,_,_,fn',hfn',_,_,_,_,hval⟩:=hok
 have e:fn' = fn:=Option.some.inj (hfn'.symm.trans hfn)
 subst e
 obtain⟨⟨⟨ds,gs,before,hw,hc⟩,hx⟩,hz⟩:=hpre
 have hw':=DataW.Whole.of_heap (w':=w.forCall tape i) (by rfl) hw
 refine(contract (w.forCall tape i) w.heap.size i.args ds gs before hval hw' hc (hz.weights hw) (hX _ _ _ (by rfl) hx) hsh).mono fun e W' ⟨v,he,hp⟩=>?_
 subst he
 exact ChangeSpec.post_blind hp
end
theorem zo3 {W:World} {b o:Nat} {v:Value} (h:W.cell? ⟨b,o,none⟩=some v):b < W.heap.size:=by
 rcases Nat.lt_or_ge b W.heap.size with g | g
 ·exact g
 ·exfalso
  simp [World.cell?,Array.getElem?_eq_none g] at h
theorem int_of_shape {W:World} (h:W.ShapedOpen Tryz.prog):Has W (IntV 2):=by
 obtain⟨m,hm⟩:=cell_of_shapedOpen_int (P:=Tryz.prog) (g:=2) (t:=3) (zero:=#[.int .i64 0]) (k:=.i64) h (of_decide_eq_true (by kernel_rfl)) (by kernel_rfl) rfl (by kernel_rfl) (by kernel_rfl) Tryz.underlying3
 exact⟨(· = 2),fun k hk=>by rw [hk]; exact zo3 hm,fun _=>Iff.rfl,m,hm⟩
theorem zok {W:World} {l:List (String×DataW Unit)} (h:laidMetH Tryz.prog l W) {n:String} {d:DataW Unit} (hm:(n,d)∈l) (hd:d.handleName?.isNone=true):Lib.VarReads Tryz.prog W n d:=by
 unfold laidMetH at h
 split at h
 ·exact Lib.laidMet.reads h hm
 ·exact Lib.laidMet.reads h.1 (List.mem_filter.2 ⟨hm,hd⟩)
theorem zlF {t:TypeId} {k:Nat} {W:World} {fuel:Nat} {l:List Value} {L:List ByteArray} {p:List MemPlace} (ht:Tryz.prog.underlying t=some (.array k 9)) (hct:Tryz.prog.cellsOf t=k) (hk:k=L.length)
  (h:DataW.trod (fun _=>()) Tryz.prog W 0 (fun _=>true) false fuel t l=some (.agg (L.map fun s=>.lit (.string s.data.toList)),p)):l=L.map fun s=>.string s:=by
 obtain⟨xs,m,_,hx,hlen,hn,hel⟩:=DataW.trod_array ht h
 have c9:Tryz.prog.cellsOf 9=1:=by kernel_rfl
 rw [c9] at hel
 simp only [Prod.mk.injEq,DataW.agg.injEq] at hx
 have hc:l.length=k:=by rw [hlen,hct]
 refine List.ext_getElem? fun i=>?_
 rw [List.getElem?_map]
 rcases Nat.lt_or_ge i k with hi | hi
 ·have he:=hel i hi
  have hli:i < l.length:=by omega
  have hLi:i < L.length:=by omega
  have hxi:i < xs.length:=by omega
  rw [Nat.mul_one,List.drop_eq_getElem_cons hli,List.getElem?_eq_getElem hxi] at he
  have he1:DataW.trod (fun _=>()) Tryz.prog W 0 (fun _=>true) false m 9 [l[i]]=some xs[i]:=he
  obtain⟨s,e0,ey,_⟩:=DataW.trod_string Tryz.underlying9 he1
  have h1:(L.map fun s=>(DataW.lit (Lit.string s.data.toList):DataW Unit))[i]?=(xs.map (·.1))[i]?:=by rw [hx.1]
  rw [List.getElem?_map,List.getElem?_map,List.getElem?_eq_getElem hLi,List.getElem?_eq_getElem hxi,ey] at h1
  simp only [Option.map_some,Option.some.injEq,DataW.lit.injEq,Lit.string.injEq] at h1
  have h2:L[i]=s:=by
   have:=Array.toList_inj.1 h1
   exact ByteArray.ext this
  simp only [List.cons.injEq,and_true] at e0
  rw [List.getElem?_eq_getElem hli,List.getElem?_eq_getElem hLi,e0,h2]
  rfl
 ·rw [List.getElem?_eq_none (by omega),List.getElem?_eq_none (by omega)]; rfl
theorem znT {W:World} {g:Nat} {nm:String} {t:TypeId} {k:Nat} {L:List ByteArray} {l:List (String×DataW Unit)} (h:laidMetH Tryz.prog l W) (hm:(nm,.agg (L.map fun s=>.lit (.string s.data.toList)))∈l)
  (hd:(DataW.agg (L.map fun s=>.lit (.string s.data.toList)):DataW Unit).handleName?.isNone=true)
  (hg:Tryz.prog.globalNamed nm=some g) (htg:(Tryz.prog.globals[g]?).map (·.type)=some t) (ht:Tryz.prog.underlying t=some (.array k 9)) (hct:Tryz.prog.cellsOf t=k) (hk:k=L.length) (h0:0 < k):Has W (zaW (some ⟨g,0,none⟩) 1 encS L):=by
 obtain⟨g',t',cs,fuel,p,hg',ht',hv,hd'⟩:=zok h hm hd
 obtain rfl:=Option.some.inj (hg.symm.trans hg')
 obtain rfl:=Option.some.inj (htg.symm.trans ht')
 have hcs:=zlF ht hct hk hd'
 have hc:=World.var?_cell hg hv
 have hcell:∀ i x,L[i]?=some x→W.cell? ⟨g,i,none⟩=some (.string x):=fun i x hi=>by
  rw [hc i]
  obtain⟨lc⟩:=cs
  have h1:lc=_:=hcs
  rw [h1]
  simp [hi]
 refine⟨(· = g),fun b hb=>?_,.inr ⟨g,0,rfl,fun _=>Iff.rfl,fun i x hi=>⟨?_,trivial⟩⟩⟩
 ·rw [hb]
  match L,hk with
  | x :: r,_=>exact zo3 (hcell 0 x rfl)
  | [],hk=>exact absurd hk (by simp; omega)
 ·rw [Nat.zero_add,Nat.mul_one]; exact hcell i x hi
theorem copes_of_laid {W:World} {l:List (String×DataW Unit)} (h:laidMetH Tryz.prog l W) (hm:("copestone/plan.copes",Rows.laid_copestone_plan_copes)∈l):Has W (zaW (some ⟨0,0,none⟩) 1 encS zeZ):=
 znT (t:=137) (k:=4) h hm (by kernel_rfl) (by kernel_rfl) (by kernel_rfl) Tryz.underlying137 (by kernel_rfl) rfl (by decide)
theorem opens_of_laid {W:World} {l:List (String×DataW Unit)} (h:laidMetH Tryz.prog l W) (hm:("copestone/plan.openings",Rows.laid_copestone_plan_openings)∈l):Has W (zaW (some ⟨1,0,none⟩) 1 encS opensW):=
 znT (t:=138) (k:=5) h hm (by kernel_rfl) (by kernel_rfl) (by kernel_rfl) Tryz.underlying138 (by kernel_rfl) rfl (by decide)
end Go.Proofs.YtdcfcfhmkfkgmaaGreatDoor
namespace Go.Proofs.YtdcfcfhmkfkgmaaGreatDoor
open Go Go.K Go.Stn Go.Pln Go.ChangeShapes Go.WideShapes Go.ChangeAt Go.WideElems Go.RowKit
section
variable {H:Type} {enc:TypeId×Value→H} {P:Program} {w:World} {base:Nat} {spare:Nat→Bool} {held:Bool}
theorem ziT {e:TypeId} {d:DataW H}:∀ {l:List (DataW H)},d∈l→∀ n∈d.weights P e,n∈DataW.weightsAll P e l
 | [],h,_,_=>by cases h
 | x :: r,h,n,hn=>by
  rw [DataW.weightsAll]
  rcases List.mem_cons.1 h with rfl | h
  ·exact List.mem_append_left _ hn
  ·exact List.mem_append_right _ (ziT h n hn)
def WOk (P:Program) (t:TypeId) (d:DataW H):Prop:=∀ n∈d.weights P t,n≤reachBytes
theorem wok_each:∀ {ts:List TypeId} {ds:List (DataW H)},(∀ n∈DataW.weightsEach P ts ds,n≤reachBytes)→∀ (i:Nat) t d,ts[i]?=some t→ds[i]?=some d→WOk P t d
 | [],_,_,i,t,d,h1,_=>by simp at h1
 | _ :: _,[],_,i,t,d,_,h2=>by simp at h2
 | t0 :: ts,d0 :: ds,h,i,t,d,h1,h2=>by
  rw [DataW.weightsEach] at h
  cases i with
  | zero=>
   simp only [List.getElem?_cons_zero,Option.some.injEq] at h1 h2
   subst h1; subst h2
   exact fun n hn=>h n (List.mem_append_left _ hn)
  | succ i=>
   simp only [List.getElem?_cons_succ] at h1 h2
   exact wok_each (fun n hn=>h n (List.mem_append_right _ hn)) i t d h1 h2
theorem zoH {t:TypeId} {fs:Array Field} (ht:P.underlying t=some (.struct fs)) {ys:List (DataW H×List MemPlace)} (h:WOk P t (.agg (ys.map (·.1)))) {i:Nat} {f:Field} {y:DataW H×List MemPlace} (hf:fs[i]?=some f) (hy:ys[i]?=some y):WOk P f.type y.1:=by
 have h':∀ n∈DataW.weightsEach P (fs.toList.map (·.type)) (ys.map (·.1)),n≤reachBytes:=fun n hn=>h n (by rw [DataW.weights,ht]; exact hn)
 refine wok_each h' i f.type y.1 ?_ ?_
 ·rw [List.getElem?_map,Array.getElem?_toList,hf]; rfl
 ·rw [List.getElem?_map,hy]; rfl
theorem zop {α:Type} {enc':α→List Value} {n:Nat} {Q:α→Prop} {t e:TypeId} {fuel:Nat} {cs:List Value} {x:DataW H×List MemPlace} (ht:P.underlying t=some (.slice e)) (hc:P.cellsOf e=n) (hn:Enc n enc')
  (hel:∀ (fuel:Nat) (cs:List Value) (y:DataW H×List MemPlace),DataW.trod enc P w base spare held fuel e cs=some y→WOk P e y.1→∃ z,Q z∧cs=enc' z)
  (h:DataW.trod enc P w base spare held fuel t cs=some x) (hx:WOk P t x.1) :
  ∃ (a:Option Addr) (L:List α) (cap:Nat),cs=[.slice a L.length cap]∧Has w (zaW a n enc' L)∧L.length≤cap∧(∀ z∈L,Q z)∧L.length*P.bytesOf e≤reachBytes:=by
 rcases Go.Deep.open_slice ht h with ⟨rfl,_⟩ | ⟨a,len,cap,m,k,D,Pl,rfl,hb,hl,hm,hmm,hxe,hi⟩
 ·exact⟨none,[],0,rfl,⟨fun _=>False,fun _ h=>h.elim,.inl rfl⟩,Nat.le_refl _,by simp,by simp⟩
 ·have hlm:len≤m:=by rw [hmm]; split <;> omega
  have hw:∀ v∈(len+(m - len))*P.bytesOf e :: (DataW.weightsAll P e ((List.range len).map D)++DataW.weightsAll P e ((List.range (m - len)).map fun j=>D (len+j))),v≤reachBytes:=fun v hv=>by
   refine hx v ?_
   rw [hxe,DataW.weights,ht]
   simpa using hv
  obtain⟨L,hll,hq⟩:=zp6 (Q:=fun i (z:α)=>Q z∧∀ j v,(enc' z)[j]?=some v→w.cell? (a.add (i*n+j))=some v) len (fun i hil=>by
   obtain⟨cs',hcs,ht'⟩:=hi i (by omega)
   obtain⟨z,hz,rfl⟩:=hel _ _ _ ht' (fun v hv=>hw v (List.mem_cons_of_mem _ (List.mem_append_left _ (ziT (List.mem_map.2 ⟨i,List.mem_range.2 hil,rfl⟩) v hv))))
   rw [hc] at hcs
   obtain⟨_,_,hat⟩:=World.cells?_some hcs
   refine⟨z,hz,fun j v hj=>?_⟩
   have hjn:j < n:=by
    have:=(List.getElem?_eq_some_iff.1 hj).1
    rw [hn.len] at this; exact this
   have h0:=hat j hjn
   rw [Go.Deep.add_add] at h0
   rw [h0]; exact hj)
  refine⟨some a,L,cap,by rw [hll],?_,by omega,fun z hz=>?_,?_⟩
  ·cases L with
   | nil=>exact⟨fun _=>False,fun _ h=>h.elim,.inl rfl⟩
   | cons z0 r=>
    obtain⟨v0,hv0⟩:∃ v0,(enc' z0)[0]?=some v0:=by
     have:0 < (enc' z0).length:=by rw [hn.len]; exact hn.pos
     exact⟨_,List.getElem?_eq_getElem this⟩
    have hc0:=(hq 0 z0 rfl).2 0 _ hv0
    obtain⟨b,off,sp⟩:=a
    have hsp:sp=none:=by
     cases sp with
     | none=>rfl
     | some s=>
      exfalso
      simp only [World.cell?,Addr.add] at hc0
      split at hc0 <;> simp_all
    subst hsp
    have hbs:b < w.heap.size:=by
     rcases Nat.lt_or_ge b w.heap.size with h | h
     ·exact h
     ·exfalso
      rw [zb2] at hc0
      simp [World.cell?,Array.getElem?_eq_none h] at hc0
    refine⟨(· = b),fun k hk=>by rw [hk]; exact hbs,.inr ⟨b,off,rfl,fun _=>Iff.rfl,fun i z hz=>zfA _ _ fun j v hj=>?_⟩⟩
    have:=(hq i z hz).2 j v hj
    rw [zb2] at this
    rw [Nat.add_assoc]; exact this
  ·obtain⟨i,hi',rfl⟩:=List.getElem_of_mem hz
   exact(hq i _ (by simp [hi'])).1
  ·have h1:=hw _ (List.mem_cons_self ..)
   rw [hll]
   refine Nat.le_trans (Nat.mul_le_mul_right _ ?_) h1
   omega
theorem zfs {t:TypeId} {fs:Array Field} {fuel:Nat} {cs:List Value} {x:DataW H×List MemPlace} (ht:P.underlying t=some (.struct fs)) (h:DataW.trod enc P w base spare held fuel t cs=some x) (hx:WOk P t x.1) (i:Nat) (f:Field) (hf:fs[i]?=some f) (ho:f.offset=i) (hc:P.cellsOf f.type=1) (hi:i < cs.length) :
  ∃ (v:Value) (y:DataW H×List MemPlace) (m:Nat),cs[i]?=some v∧DataW.trod enc P w base spare held m f.type [v]=some y∧WOk P f.type y.1:=by
 obtain⟨ys,m,_,hxe,_,hyl,hg⟩:=DataW.trod_struct ht h
 have h1:=hg i f hf
 have hfi:i < fs.size:=by
  rcases Nat.lt_or_ge i fs.size with g | g
  ·exact g
  ·rw [Array.getElem?_eq_none g] at hf; cases hf
 rw [ho,hc,List.drop_eq_getElem_cons hi,List.getElem?_eq_getElem (by omega)] at h1
 have h2:DataW.trod enc P w base spare held m f.type [cs[i]]=some (ys[i]'(by omega)):=h1
 refine⟨cs[i],ys[i]'(by omega),m,List.getElem?_eq_getElem hi,h2,?_⟩
 rw [hxe] at hx
 exact zoH ht hx hf (List.getElem?_eq_getElem (by omega))
theorem zh1 {t:TypeId} {fs:Array Field} {fuel:Nat} {cs:List Value} {x:DataW H×List MemPlace} (ht:P.underlying t=some (.struct fs)) (h:DataW.trod enc P w base spare held fuel t cs=some x) (hx:WOk P t x.1) (i:Nat) (f:Field) (hf:fs[i]?=some f) (ho:f.offset=i) (hc:P.cellsOf f.type=1) (hi:i < cs.length)
  (hu:P.underlying f.type=some .string):∃ s:ByteArray,cs[i]?=some (.string s)∧Fits s.size:=by
 obtain⟨v,y,m,hv,hy,hw⟩:=zfs ht h hx i f hf ho hc hi
 obtain⟨s,e,ey,_⟩:=DataW.trod_string hu hy
 simp only [List.cons.injEq,and_true] at e
 subst e; subst ey
 refine⟨s,hv,?_⟩
 have:=hw s.size (by rw [DataW.weights]; simp)
 unfold reachBytes at this
 unfold Fits
 omega
theorem zbA {t:TypeId} {fs:Array Field} {fuel:Nat} {cs:List Value} {x:DataW H×List MemPlace} (ht:P.underlying t=some (.struct fs)) (h:DataW.trod enc P w base spare held fuel t cs=some x) (hx:WOk P t x.1) (i:Nat) (f:Field) (hf:fs[i]?=some f) (ho:f.offset=i) (hc:P.cellsOf f.type=1) (hi:i < cs.length)
  {k:IntKind} (hu:P.underlying f.type=some (.int k)):∃ n:Int,cs[i]?=some (.int k n)∧(Lit.int k n).wf=true:=by
 obtain⟨v,y,m,hv,hy,hw⟩:=zfs ht h hx i f hf ho hc hi
 obtain⟨n,e,ey,hwf⟩:=DataW.trod_int hu hy
 simp only [List.cons.injEq,and_true] at e
 subst e
 exact⟨n,hv,hwf⟩
theorem zfD {α:Type} {enc':α→List Value} {n:Nat} {Q:α→Prop} {t e:TypeId} {fs:Array Field} {fuel:Nat} {cs:List Value} {x:DataW H×List MemPlace} (ht:P.underlying t=some (.struct fs)) (h:DataW.trod enc P w base spare held fuel t cs=some x) (hx:WOk P t x.1) (i:Nat) (f:Field) (hf:fs[i]?=some f) (ho:f.offset=i) (hc:P.cellsOf f.type=1) (hi:i < cs.length)
  (hu:P.underlying f.type=some (.slice e)) (hce:P.cellsOf e=n) (hn:Enc n enc') (hel:∀ (fuel:Nat) (cs:List Value) (y:DataW H×List MemPlace),DataW.trod enc P w base spare held fuel e cs=some y→WOk P e y.1→∃ z,Q z∧cs=enc' z) :
  ∃ (a:Option Addr) (L:List α) (cap:Nat),cs[i]?=some (.slice a L.length cap)∧Has w (zaW a n enc' L)∧L.length≤cap∧(∀ z∈L,Q z)∧L.length*P.bytesOf e≤reachBytes:=by
 obtain⟨v,y,m,hv,hy,hw⟩:=zfs ht h hx i f hf ho hc hi
 obtain⟨a,L,cap,e1,h1,h2,h3,h4⟩:=zop hu hce hn hel hy hw
 simp only [List.cons.injEq,and_true] at e1
 subst e1
 exact⟨a,L,cap,hv,h1,h2,h3,h4⟩
end
section
variable {H:Type} {enc:TypeId×Value→H} {w:World} {base:Nat} {spare:Nat→Bool} {held:Bool}
theorem zfH {P:Program} {t:TypeId} {fs:Array Field} {fuel n:Nat} {cs:List Value} {x:DataW H×List MemPlace} (ht:P.underlying t=some (.struct fs)) (hc:P.cellsOf t=n) (h:DataW.trod enc P w base spare held fuel t cs=some x):cs.length=n:=by
 obtain⟨_,_,_,_,hl,_⟩:=DataW.trod_struct ht h
 rw [hl,hc]
theorem zrX {fuel:Nat} {cs:List Value} {y:DataW H×List MemPlace} (h:DataW.trod enc Tryz.prog w base spare held fuel 3 cs=some y) (_:WOk Tryz.prog 3 y.1):∃ n:Int,True∧cs=Go.Stn.encI n:=by
 obtain⟨n,e,_,_⟩:=DataW.trod_int Tryz.underlying3 h
 exact⟨n,trivial,e⟩
theorem zrY {fuel:Nat} {cs:List Value} {y:DataW H×List MemPlace} (h:DataW.trod enc Tryz.prog w base spare held fuel 139 cs=some y) (hx:WOk Tryz.prog 139 y.1) :
  ∃ o:Opn,Knd o∧cs=zba o:=by
 have hl:cs.length=5:=zfH Tryz.underlying139 (by kernel_rfl) h
 obtain⟨f0,e0,q0⟩:=zbA Tryz.underlying139 h hx 0 _ rfl rfl (by kernel_rfl) (by omega) Tryz.underlying5
 obtain⟨f1,e1,q1⟩:=zbA Tryz.underlying139 h hx 1 _ rfl rfl (by kernel_rfl) (by omega) Tryz.underlying3
 obtain⟨f2,e2,q2⟩:=zbA Tryz.underlying139 h hx 2 _ rfl rfl (by kernel_rfl) (by omega) Tryz.underlying3
 obtain⟨f3,e3,q3⟩:=zbA Tryz.underlying139 h hx 3 _ rfl rfl (by kernel_rfl) (by omega) Tryz.underlying3
 obtain⟨f4,e4,q4⟩:=zbA Tryz.underlying139 h hx 4 _ rfl rfl (by kernel_rfl) (by omega) Tryz.underlying3
 match cs,hl with
 | [c0,c1,c2,c3,c4],_=>
  simp only [List.getElem?_cons_zero,List.getElem?_cons_succ,Option.some.injEq] at e0 e1 e2 e3 e4
  subst e0; subst e1; subst e2; subst e3; subst e4
  exact⟨⟨f0,f1,f2,f3,f4⟩,bounds_u8 q0,rfl⟩
structure ShIn (w:World) (z:ShC):Prop where
 hts:Has w (Ints z.a z.s.heights)
 cap:z.s.heights.length≤z.cap
 fits:Fits z.s.name.size
 cope:0≤z.s.cope
 cope2:z.s.cope≤255
structure WlIn (w:World) (z:WlC):Prop where
 ops:Has w (zaW z.a 5 zba z.s.opens)
 cap:z.s.opens.length≤z.cap
 knd:∀ o∈z.s.opens,Knd o
 fits:Fits z.s.name.size
 fits2:Fits z.s.sheet.size
theorem zr0 {fuel:Nat} {cs:List Value} {y:DataW H×List MemPlace} (h:DataW.trod enc Tryz.prog w base spare held fuel 37 cs=some y) (hx:WOk Tryz.prog 37 y.1) :
  ∃ z:ShC,ShIn w z∧cs=zbH z:=by
 have hl:cs.length=20:=zfH Tryz.underlying37 (by kernel_rfl) h
 obtain⟨f0,e0,q0⟩:=zh1 Tryz.underlying37 h hx 0 _ rfl rfl (by kernel_rfl) (by omega) Tryz.underlying9
 obtain⟨f1,e1,q1⟩:=zbA Tryz.underlying37 h hx 1 _ rfl rfl (by kernel_rfl) (by omega) Tryz.underlying3
 obtain⟨f2,e2,q2⟩:=zbA Tryz.underlying37 h hx 2 _ rfl rfl (by kernel_rfl) (by omega) Tryz.underlying3
 obtain⟨f3,e3,q3⟩:=zbA Tryz.underlying37 h hx 3 _ rfl rfl (by kernel_rfl) (by omega) Tryz.underlying3
 obtain⟨f4,e4,q4⟩:=zbA Tryz.underlying37 h hx 4 _ rfl rfl (by kernel_rfl) (by omega) Tryz.underlying3
 obtain⟨a5,f5,k5,e5,q5,r5,s5,b5⟩:=zfD (Q:=fun _=>True) Tryz.underlying37 h hx 5 _ rfl rfl (by kernel_rfl) (by omega) Tryz.underlying35 (by kernel_rfl) Go.Stn.encI_ok (fun _ _ _ h1 h2=>zrX h1 h2)
 obtain⟨f6,e6,q6⟩:=zbA Tryz.underlying37 h hx 6 _ rfl rfl (by kernel_rfl) (by omega) Tryz.underlying3
 obtain⟨f7,e7,q7⟩:=zbA Tryz.underlying37 h hx 7 _ rfl rfl (by kernel_rfl) (by omega) Tryz.underlying3
 obtain⟨f8,e8,q8⟩:=zbA Tryz.underlying37 h hx 8 _ rfl rfl (by kernel_rfl) (by omega) Tryz.underlying3
 obtain⟨f9,e9,q9⟩:=zbA Tryz.underlying37 h hx 9 _ rfl rfl (by kernel_rfl) (by omega) Tryz.underlying3
 obtain⟨f10,e10,q10⟩:=zbA Tryz.underlying37 h hx 10 _ rfl rfl (by kernel_rfl) (by omega) Tryz.underlying3
 obtain⟨f11,e11,q11⟩:=zbA Tryz.underlying37 h hx 11 _ rfl rfl (by kernel_rfl) (by omega) Tryz.underlying3
 obtain⟨f12,e12,q12⟩:=zbA Tryz.underlying37 h hx 12 _ rfl rfl (by kernel_rfl) (by omega) Tryz.underlying3
 obtain⟨f13,e13,q13⟩:=zbA Tryz.underlying37 h hx 13 _ rfl rfl (by kernel_rfl) (by omega) Tryz.underlying5
 obtain⟨f14,e14,q14⟩:=zbA Tryz.underlying37 h hx 14 _ rfl rfl (by kernel_rfl) (by omega) Tryz.underlying3
 obtain⟨f15,e15,q15⟩:=zbA Tryz.underlying37 h hx 15 _ rfl rfl (by kernel_rfl) (by omega) Tryz.underlying3
 obtain⟨f16,e16,q16⟩:=zbA Tryz.underlying37 h hx 16 _ rfl rfl (by kernel_rfl) (by omega) Tryz.underlying3
 obtain⟨f17,e17,q17⟩:=zbA Tryz.underlying37 h hx 17 _ rfl rfl (by kernel_rfl) (by omega) Tryz.underlying3
 obtain⟨f18,e18,q18⟩:=zbA Tryz.underlying37 h hx 18 _ rfl rfl (by kernel_rfl) (by omega) Tryz.underlying3
 obtain⟨f19,e19,q19⟩:=zbA Tryz.underlying37 h hx 19 _ rfl rfl (by kernel_rfl) (by omega) Tryz.underlying3
 match cs,hl with
 | [c0,c1,c2,c3,c4,c5,c6,c7,c8,c9,c10,c11,c12,c13,c14,c15,c16,c17,c18,c19],_=>
  simp only [List.getElem?_cons_zero,List.getElem?_cons_succ,Option.some.injEq] at e0 e1 e2 e3 e4 e5 e6 e7 e8 e9 e10 e11 e12 e13 e14 e15 e16 e17 e18 e19
  subst e0; subst e1; subst e2; subst e3; subst e4; subst e5; subst e6; subst e7; subst e8; subst e9; subst e10; subst e11; subst e12; subst e13; subst e14; subst e15; subst e16; subst e17; subst e18; subst e19
  exact⟨⟨⟨f0,f1,f2,f3,f4,f5,f6,f7,f8,f9,f10,f11,f12,f13,f14,f15,f16,f17,f18,f19⟩,a5,k5⟩,⟨q5,r5,q0,(bounds_u8 q13).1,(bounds_u8 q13).2⟩,rfl⟩
theorem zr1 {fuel:Nat} {cs:List Value} {y:DataW H×List MemPlace} (h:DataW.trod enc Tryz.prog w base spare held fuel 65 cs=some y) (hx:WOk Tryz.prog 65 y.1) :
  ∃ z:WlC,WlIn w z∧cs=zbS z:=by
 have hl:cs.length=4:=zfH Tryz.underlying65 (by kernel_rfl) h
 obtain⟨f0,e0,q0⟩:=zh1 Tryz.underlying65 h hx 0 _ rfl rfl (by kernel_rfl) (by omega) Tryz.underlying9
 obtain⟨f1,e1,q1⟩:=zh1 Tryz.underlying65 h hx 1 _ rfl rfl (by kernel_rfl) (by omega) Tryz.underlying9
 obtain⟨f2,e2,q2⟩:=zbA Tryz.underlying65 h hx 2 _ rfl rfl (by kernel_rfl) (by omega) Tryz.underlying3
 obtain⟨a3,f3,k3,e3,q3,r3,s3,b3⟩:=zfD (Q:=Knd) Tryz.underlying65 h hx 3 _ rfl rfl (by kernel_rfl) (by omega) Tryz.underlying63 (by kernel_rfl) encOpn_ok (fun _ _ _ h1 h2=>zrY h1 h2)
 match cs,hl with
 | [c0,c1,c2,c3],_=>
  simp only [List.getElem?_cons_zero,List.getElem?_cons_succ,Option.some.injEq] at e0 e1 e2 e3
  subst e0; subst e1; subst e2; subst e3
  exact⟨⟨⟨f0,f1,f2,f3⟩,a3,k3⟩,⟨q3,r3,s3,q0,q1⟩,rfl⟩
theorem h37 {n:Nat} (h:n*Tryz.prog.bytesOf 37≤reachBytes):zaP n:=by
 rw [show Tryz.prog.bytesOf 37=184 by kernel_rfl] at h
 unfold reachBytes at h
 unfold zaP
 omega
theorem h65 {n:Nat} (h:n*Tryz.prog.bytesOf 65≤reachBytes):n≤4398046511104:=by
 rw [show Tryz.prog.bytesOf 65=64 by kernel_rfl] at h
 unfold reachBytes at h
 omega
structure zsA (w:World) (a:Option Addr) (cap:Nat) (S:List ShC) (b:Option Addr) (bcap:Nat) (V:List WlC):Prop where
 hl:Has w (zaW a 20 zbH S)
 hcS:S.length≤cap
 hS:∀ z∈S,ShIn w z
 hs:zaP S.length
 hlw:Has w (zaW b 4 zbS V)
 hcV:V.length≤bcap
 hV:∀ z∈V,WlIn w z
 hsw:V.length≤4398046511104
theorem zrZ {fuel:Nat} {cs:List Value} {y:DataW H×List MemPlace} (h:DataW.trod enc Tryz.prog w base spare held fuel 25 cs=some y) (hx:WOk Tryz.prog 25 y.1) :
  ∃ (a:Option Addr) (cap:Nat) (S:List ShC) (b:Option Addr) (bcap:Nat) (V:List WlC),zsA w a cap S b bcap V∧cs=[.slice a S.length cap,.slice b V.length bcap]:=by
 have hl:cs.length=2:=zfH Tryz.underlying25 (by kernel_rfl) h
 obtain⟨a0,f0,k0,e0,q0,r0,s0,b0⟩:=zfD (Q:=ShIn w) Tryz.underlying25 h hx 0 _ rfl rfl (by kernel_rfl) (by omega) Tryz.underlying22 (by kernel_rfl) zbI (fun _ _ _ h1 h2=>zr0 h1 h2)
 obtain⟨a1,f1,k1,e1,q1,r1,s1,b1⟩:=zfD (Q:=WlIn w) Tryz.underlying25 h hx 1 _ rfl rfl (by kernel_rfl) (by omega) Tryz.underlying23 (by kernel_rfl) zbo (fun _ _ _ h1 h2=>zr1 h1 h2)
 match cs,hl with
 | [c0,c1],_=>
  simp only [List.getElem?_cons_zero,List.getElem?_cons_succ,Option.some.injEq] at e0 e1
  subst e0; subst e1
  exact⟨a0,k0,f0,a1,k1,f1,⟨q0,r0,s0,h37 b0,q1,r1,s1,h65 b1⟩,rfl⟩
set_option maxRecDepth 100000 in
theorem open_plan {r:Reach} {b0:Nat} {v:Value} {d:DataW H} {p:List MemPlace} (hv:Value.okWide Tryz.prog w r b0 25 v) (h:DataW.Trod enc Tryz.prog w base spare held 25 v d p) (hx:WOk Tryz.prog 25 d) :
  ∃ (a:Option Addr) (cap:Nat) (S:List ShC) (b:Option Addr) (bcap:Nat) (V:List WlC),zsA w a cap S b bcap V∧v=.agg #[.slice a S.length cap,.slice b V.length bcap]:=by
 obtain⟨cs,rfl,hsz⟩:=okWide_struct Tryz.underlying25 hv
 obtain⟨fuel,hf⟩:=h
 obtain⟨a,cap,S,b,bcap,V,h1,h2⟩:=zrZ (y:=(d,p)) hf hx
 refine⟨a,cap,S,b,bcap,V,h1,?_⟩
 obtain⟨ls⟩:=cs
 have h5:ls=_:=h2
 rw [h5]
set_option maxRecDepth 100000 in
theorem open_text {r:Reach} {b0:Nat} {v:Value} {d:DataW H} {p:List MemPlace} (hv:Value.okWide Tryz.prog w r b0 9 v) (h:DataW.Trod enc Tryz.prog w base spare held 9 v d p) (hx:WOk Tryz.prog 9 d):∃ s:ByteArray,Fits s.size∧v=.string s:=by
 obtain⟨s,rfl⟩:=okWide_string Tryz.underlying9 hv
 obtain⟨fuel,hf⟩:=h
 obtain⟨s',e,ey,_⟩:=DataW.trod_string Tryz.underlying9 hf
 simp only [Value.cells,List.cons.injEq,Value.string.injEq,and_true] at e
 subst e
 simp only [Prod.mk.injEq] at ey
 refine⟨s,?_,rfl⟩
 have:=hx s.size (by rw [ey.1,DataW.weights]; simp)
 unfold reachBytes at this
 unfold Fits
 omega
end
end Go.Proofs.YtdcfcfhmkfkgmaaGreatDoor