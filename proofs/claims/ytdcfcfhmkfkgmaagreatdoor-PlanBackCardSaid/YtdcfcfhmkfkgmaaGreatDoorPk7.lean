/- What the proof of the root text leans on, part 7: the layer, plain facts and walks. No statement of the seat is proved in this text. -/
import Derived.ChangeSame
import Derived.Deep.Slices
import Derived.Handed
import Derived.HandedShaped
import Derived.LaidHandle
import Derived.LaidLaws
import Derived.LaidMore
import Derived.Lay
import Derived.Lib.LaidU8
import Derived.OpenShut
import Derived.ProofKit
import Derived.Shelf.Vars
import Derived.SizedLaws
import Derived.Stop.Joined
import Derived.Test.YtdcfcfhmkfkgmaaGreatDoorRows
import Derived.WideKeyArgs
import Derived.Test.YtdcfcfhmkfkgmaaGreatDoorPk6
namespace Go.Proofs.YtdcfcfhmkfkgmaaGreatDoor
open Go.K Go.Stn Go.Pln Go.RowKit
theorem zvf  (w:World):(Instr.buildSlice 92 0 #[]).run Tryz.prog w=.ok (.slice (some ⟨w.heap.size,0,none⟩) 0 0) (w.alloc (.cells (([]:List (Opn)).flatMap zba).toArray 98)):=by kernel_rfl
theorem zrM {α:Type} {k:Nat} {enc:α→List Value} {w:World} {a:Option Addr} {l:List α} (h:Has w (zaW a k enc l)) (hn:a.isNone=true):l=[]:=by
 obtain⟨B,_,hA⟩:=h
 rcases hA with h | ⟨b,off,ha,_⟩
 ·exact h
 ·rw [ha] at hn; cases hn
set_option maxRecDepth 100000 in
set_option maxHeartbeats 1000000 in
theorem zrd (a:Option Addr) (cap:Nat) (l:List Opn) (w:World) (hl:Has w (zaW a 5 zba l)) (hs:Small l.length) :
  Calls Tryz.prog 68 #[.slice a l.length cap] w (zcU (fun z:Option Addr×Nat=>.slice z.1 l.length z.2) (fun z=>Row z.1 5 z.2 98 zba l) w):=by
 refine zan (vs:=[_]) Tryz.func68 rfl rfl (Nat.le_of_ble_eq_true rfl) ?_
 refine zac (zaa (gA ?_))
 refine zag (zae (T':=[(0,_),(2,_)]) ⟨rfl,rfl,trivial⟩ ?_)
 refine zac (zac (zaa (gM ?_)))
 refine gQ (zuU (Tryz.underlying92) rfl rfl) ?_
 refine zag (zae (T':=[(0,_),(2,_),(4,_)]) ⟨rfl,rfl,rfl,trivial⟩ ?_)
 refine zap rfl (fun hc4=>?_) (fun hc4=>?_)
 ·have hL:l=[]:=zrM hl hc4
  subst hL
  refine zbB 98 zba 5 ?_
  refine zac (zaa (gA ?_))
  refine zag (zae (T':=[(0,_),(2,_)]) ⟨rfl,rfl,trivial⟩ ?_)
  refine zaw (zbd (none,0) 0 (zaC rfl (zau rfl)) ?_ rfl)
  rfl
 ·
  refine zaq (zac (zaa (zaG rfl rfl (zaD rfl (zvf) encOpn_ok rfl) fun b5=>?_)))
  refine gM ?_
  refine zb4 (m:=l) 0 af92 encOpn_ok rfl rfl rfl rfl (fun _ hw=>(Rd.has (Has.rd hl) hw)) (by unfold Small at hs; simp only [List.length_nil]; omega) (by unfold Small at hs; simp only [List.length_nil,maxLen]; omega) fun a7 c7=>?_
  refine gA ?_
  refine zag (zae (T':=[(2,_)]) ⟨rfl,trivial⟩ ?_)
  refine zaw (zbd (a7,c7) 0 (zaC rfl (zau rfl)) ?_ rfl)
  rfl
set_option maxRecDepth 100000 in
set_option maxHeartbeats 2000000 in
theorem zkP (a:Option Addr) (cap:Nat) (l:List Opn) (f:Opn→Bool) (gg:FuncId) (gcap:List Value) (hen:En Tryz.prog gg) (R:Res) (w:World) (B:Nat→Prop) (hB:∀ k,B k→k < w.heap.size) (hA:(Row a 5 cap 98 zba l).A B w) (hs:Small l.length) (hR:Rd (fun k=>k < w.heap.size∧¬ B k) w R) (hg:∀ (o:Opn) w',Has w' R→Calls Tryz.prog gg ([Value.agg (zba o).toArray]++gcap).toArray w' (Pure (.bool (f o)) w')) :
  Calls Tryz.prog 117 #[.slice a l.length cap,.func (.func gg) #[] gcap.toArray] w (zho (fun _:Unit=>.slice a (offL f l).length cap) (fun _=>Row a 5 cap 98 zba (offZ f l)) (fun _=>True) B w):=by
 have hsub:∀ n,subA a 5 0 n=a:=fun n=>zsa hA
 have hcap:l.length≤cap:=Row.bounds hA
 refine zby hB hA (vs:=[_,_]) Tryz.func117 rfl rfl (Nat.le_of_ble_eq_true rfl) ?_
 refine zac (zaa (gA ?_))
 refine zag (zae (T':=[(0,_),(1,_),(4,_)]) ⟨rfl,rfl,rfl,trivial⟩ ?_)
 refine zac (zaa (gM ?_))
 refine gM ?_
 refine gQ (zaJ zvR rfl (fun w hw=>zhj _ _ l f _ [] _ w (zam encOpn_ok (hw.has (p:=0) rfl)) (by assumption) (fun w'=>Has w' R) (fun w' hx=>Has.ext (Rd.has hR hw) hx) hen (fun z w' hm=>hg z w' hm))) ?_
 refine gA ?_
 refine zag (zae (T':=[(0,_),(1,_),(4,_),(5,_)]) ⟨rfl,rfl,rfl,rfl,trivial⟩ ?_)
 refine zac (zac (zaa (gM ?_)))
 refine gQ (zbL rfl rfl) ?_
 refine zag (zae (T':=[(0,_),(1,_),(4,_),(5,_),(12,_)]) ⟨rfl,rfl,rfl,rfl,rfl,trivial⟩ ?_)
 refine zap rfl (fun hc12=>?_) (fun hc12=>?_)
 ·have hc12:=of_decide_eq_true hc12
  have hL:=zrQ hc12
  refine zac (zaa (gM ?_))
  refine gA ?_
  refine zag (zae (T':=[(0,_),(1,_),(4,_),(5,_)]) ⟨rfl,rfl,rfl,rfl,trivial⟩ ?_)
  refine zae (T':=[(0,_),(1,_),(4,.slice a (offL f l).length cap),(5,_)]) ⟨rfl,rfl,(by rw [hL]; rfl),rfl,trivial⟩ ?_
  refine za2 (R':=Row a 5 cap 98 zba (offZ f l)) 0 rfl (fun B w hA=>by unfold offZ; rw [hL,Nat.sub_self,List.replicate_zero,List.append_nil]; exact hA) ?_
  refine zaw (zd9 () 0 (zaC rfl (zau rfl)) rfl rfl trivial)
 ·have hc12:=of_decide_eq_false hc12
  have hD:=zqh hc12
  have hi0:=hD.i0
  have hij:=hD.ij
  have hjl:=hD.jl
  refine zaq (zac (zac (zaa (gM ?_))))
  refine gQ (zaY rfl rfl (by omega) (by omega)) ?_
  refine gA ?_
  refine zag (zae (T':=[(0,_),(1,_),(4,_),(5,_),(6,_)]) ⟨rfl,rfl,rfl,rfl,rfl,trivial⟩ ?_)
  refine zas ?_
  refine zbf (X:=Int×Int×List Opn) (fun⟨i,j,m⟩=>[(0,.slice a l.length cap),(1,.func (.func gg) #[] gcap.toArray),(4,.slice none 0 0),(5,.int .i64 i),(6,.int .i64 j)]) (fun⟨i,j,m⟩=>[Row a 5 cap 98 zba m]) (fun⟨i,j,m⟩=>OffI f l m i j) (fun⟨i,j,m⟩=>(l.length - j).toNat) (zbJ f l,zbJ f l+1,l) ⟨rfl,rfl,rfl,rfl,rfl,trivial⟩ rfl ?_ ?_
  ·exact hD
  ·rintro ⟨i,j,m⟩ hI
   have hD:OffI f l m i j:=hI
   have hi0:=hD.i0
   have hij:=hD.ij
   have hjl:=hD.jl
   have hml:=hD.len
   refine zac (zac (zaa (gM ?_)))
   refine gM ?_
   refine gQ (zaV (Tryz.underlying92) rfl) ?_
   refine gQ (zbw rfl rfl) ?_
   refine zag (zae (T':=[(0,_),(1,_),(4,_),(5,_),(6,_),(19,_)]) ⟨rfl,rfl,rfl,rfl,rfl,rfl,trivial⟩ ?_)
   refine zap rfl (fun hc19=>?_) (fun hc19=>?_)
   ·have hc19:=of_decide_eq_true hc19
    refine zaq (zac (zas ?_))
    refine zac (zaa (gM ?_))
    refine gM ?_
    refine gQ (zn6 se92 rfl rfl (fun _ hw=>(zam encOpn_ok (hw.has (p:=0) rfl))) hD.len (by omega) (by omega)) ?_
    refine gQ (zbv (vs:=[_,_,_,_,_]) tf98 rfl (fun _ hw=>(zam encOpn_ok (hw.has (p:=0) rfl))) (by omega) (by omega) rfl) ?_
    refine zaG rfl rfl (zaL tf98 (zs:=[_,_,_,_,_]) rfl) fun b7=>?_
    refine zaA 0 tf98 rfl rfl (vs:=[_,_,_,_,_]) rfl rfl rfl rfl rfl ?_
    refine zag (zae (T':=[(0,_),(1,_),(4,_),(5,_),(6,_),(7,_)]) ⟨rfl,rfl,rfl,rfl,rfl,rfl,trivial⟩ ?_)
    refine zac (zaa (gM ?_))
    refine gQ (zat 0 tf98 rfl rfl (vs:=[_,_,_,_,_]) rfl rfl) ?_
    refine gQ (zde (fs:=[]) (cap:=gcap) hen rfl rfl (fun w hw=>hg _ w (Rd.has hR hw))) ?_
    refine gQ (zbR rfl) ?_
    refine zag (zae (T':=[(0,_),(1,_),(4,_),(5,_),(6,_),(7,_),(29,_)]) ⟨rfl,rfl,rfl,rfl,rfl,rfl,rfl,trivial⟩ ?_)
    refine zap rfl (fun hc29=>?_) (fun hc29=>?_)
    ·have hb29:f (m.getD j.toNat default)=false:=by rw [Bool.not_eq_true'] at hc29; exact hc29
     refine zac (zaa (gM ?_))
     refine gM ?_
     refine gQ (zat 0 tf98 rfl rfl (vs:=[_,_,_,_,_]) rfl rfl) ?_
     refine gQ (zn6 se92 rfl rfl (fun _ hw=>(zam encOpn_ok (hw.has (p:=1) rfl))) hD.len (by omega) (by omega)) ?_
     refine zpR (x':=(m.getD (j).toNat default)) 1 encOpn_ok tf98 rfl rfl (vs:=[_,_,_,_,_]) rfl rfl rfl (by omega) (by omega) ?_
     refine zag (zae (T':=[(0,_),(1,_),(4,_),(5,_),(6,_)]) ⟨rfl,rfl,rfl,rfl,rfl,trivial⟩ ?_)
     refine zaa (gM ?_)
     refine gQ (zaY rfl rfl (by omega) (by omega)) ?_
     refine gA ?_
     refine zag (zae (T':=[(0,_),(1,_),(4,_),(5,_),(6,_)]) ⟨rfl,rfl,rfl,rfl,rfl,trivial⟩ ?_)
     refine zaa (gM ?_)
     refine gQ (zaY rfl rfl (by omega) (by omega)) ?_
     refine gA ?_
     refine zag (zae (T':=[(0,_),(1,_),(4,_),(5,_),(6,_)]) ⟨rfl,rfl,rfl,rfl,rfl,trivial⟩ ?_)
     refine zaK 0 rfl ?_
     exact za1 (_,j+1,_) ⟨rfl,rfl,rfl,rfl,rfl,trivial⟩ rfl (by first | exact hD.keep hc19 hb29 | exact hD.skip hc19 hb29) (by simp only []; omega)
    ·have hb29:f (m.getD j.toNat default)=true:=by rw [Bool.not_eq_false'] at hc29; exact hc29
     refine zaq (zaa (gM ?_))
     refine gQ (zaY rfl rfl (by omega) (by omega)) ?_
     refine gA ?_
     refine zag (zae (T':=[(0,_),(1,_),(4,_),(5,_),(6,_)]) ⟨rfl,rfl,rfl,rfl,rfl,trivial⟩ ?_)
     refine zaK 0 rfl ?_
     exact za1 (_,j+1,_) ⟨rfl,rfl,rfl,rfl,rfl,trivial⟩ rfl (by first | exact hD.keep hc19 hb29 | exact hD.skip hc19 hb29) (by simp only []; omega)
   ·have hc19:=of_decide_eq_false hc19
    obtain⟨d1,d2,d3⟩:=hD.done hc19
    refine za8 rfl ?_
    refine zac (zaa (gM ?_))
    refine gM ?_
    refine gQ (zg9 se92 rfl rfl (by omega) (by omega)) ?_
    refine zrt m (default:Opn) 0 encOpn_ok (Tryz.underlying92) tf98 rfl rfl (by rw [List.length_drop,List.length_drop,hD.len]) rfl (by have:=hD.i0; have:=hD.ij; have:=hD.jl; have:=hD.len; omega) rfl ?_
    refine zag (zae (T':=[(0,_),(4,_),(5,_)]) ⟨rfl,rfl,rfl,trivial⟩ ?_)
    refine za2 (R':=Row a 5 cap 98 zba (offZ f l)) 0 rfl (fun B w hA=>by unfold offZ; rw [←d2,←d1,←d3]; exact hA) ?_
    refine zac (zaa (gM ?_))
    refine gM ?_
    refine gQ (zg8 se92 rfl rfl (by omega) (by omega) hcap) ?_
    refine gA ?_
    refine zag (zae (T':=[(4,_)]) ⟨rfl,trivial⟩ ?_)
    refine zae (T':=[(4,.slice a (offL f l).length cap)]) ⟨(by rw [show(offL f l).length=(l.take i.toNat).length from by have:=zun (p:=f) l; rw [List.length_take]; omega,hsub cap]; rfl),trivial⟩ ?_
    refine zaw (zd9 () 0 (zaC rfl (zau rfl)) rfl rfl trivial)
end Go.Proofs.YtdcfcfhmkfkgmaaGreatDoor
namespace Go.Proofs.YtdcfcfhmkfkgmaaGreatDoor
open Go.K Go.Stn Go.Pln Go.RowKit
theorem zxD:TF Tryz.prog 147 false 1 (.nilFunc):=⟨by kernel_rfl,by kernel_rfl⟩
theorem zne:FO Tryz.prog 49 0 0:=⟨by kernel_rfl⟩
theorem en68:En Tryz.prog 68:=za7 Tryz.func68 (by kernel_rfl) (by kernel_rfl)
theorem zw6:En Tryz.prog 117:=za7 Tryz.func117 (by kernel_rfl) (by kernel_rfl)
theorem zw7:En Tryz.prog 118:=za7 Tryz.func118 (by kernel_rfl) (by kernel_rfl)
theorem zw8:En Tryz.prog 119:=za7 Tryz.func119 (by kernel_rfl) (by kernel_rfl)
set_option maxRecDepth 100000 in
set_option maxHeartbeats 1000000 in
theorem zoD (o:Opn) (b:Nat) (f:Opn→Bool) (gg:FuncId) (gcap:List Value) (hen:En Tryz.prog gg) (R:Res) (w:World) (hb:Has w (Box b [.func (.func gg) #[] gcap.toArray] 147)) (hR:Has w R) (hg:∀ (o:Opn) w',Has w' R→Calls Tryz.prog gg ([Value.agg (zba o).toArray]++gcap).toArray w' (Pure (.bool (f o)) w')) :
  Calls Tryz.prog 118 #[.agg #[.int .u8 o.kind,.int .i64 o.at_,.int .i64 o.width,.int .i64 o.frm,.int .i64 o.high],.pointer (some ⟨b,0,none⟩)] w (Pure (.bool (!f o)) w):=by
 refine zan (vs:=[_,_]) Tryz.func118 rfl rfl (Nat.le_of_ble_eq_true rfl) ?_
 refine zac (zaa (zaG rfl rfl (za3 (vs:=[_,_,_,_,_]) rfl rfl) fun b2=>?_))
 refine gA ?_
 refine zag (zae (T':=[(1,_),(2,_),(3,_)]) ⟨rfl,rfl,rfl,trivial⟩ ?_)
 refine zac (zaa (gk_y rfl rfl (zbW zxD rfl (fun _ hw=>zaQ (Rd.has (Has.rd hb) hw) rfl)) ?_))
 refine gQ (zat 0 tf98 rfl rfl (vs:=[_,_,_,_,_]) rfl rfl) ?_
 refine gQ (zde (fs:=[]) (cap:=gcap) hen rfl rfl (fun w hw=>hg _ w (Rd.has (Has.rd hR) hw))) ?_
 refine gQ (zbR rfl) ?_
 refine gA ?_
 refine zag (zae (T':=[(3,_)]) ⟨rfl,trivial⟩ ?_)
 refine zaw (zay (zaC rfl (zau rfl)) ?_)
 rfl
set_option maxRecDepth 100000 in
set_option maxHeartbeats 1000000 in
theorem ztj (o:Opn) (c:Crs) (b:Nat) (w:World) (hb:Has w (Box b [.int .i64 c.frm,.int .i64 c.to] 49)) :
  Calls Tryz.prog 96 #[.agg #[.int .u8 o.kind,.int .i64 o.at_,.int .i64 o.width,.int .i64 o.frm,.int .i64 o.high],.pointer (some ⟨b,0,none⟩)] w (Pure (.bool (znn c o)) w):=by
 refine zan (vs:=[_,_]) Tryz.func96 rfl rfl (Nat.le_of_ble_eq_true rfl) ?_
 refine zac (zaa (zaG rfl rfl (za3 (vs:=[_,_,_,_,_]) rfl rfl) fun b2=>?_))
 refine gA ?_
 refine zag (zae (T':=[(1,_),(2,_),(3,_)]) ⟨rfl,rfl,rfl,trivial⟩ ?_)
 refine zac (zbb 16 (fun _=>mixed) (by kernel_rfl) ?_)
 refine ph_y (zab zfe rfl) ?_
 refine ph_y (zah 0 tf3 rfl rfl rfl) ?_
 refine ph_y (zab zpx rfl) ?_
 refine ph_y (zbW tf3 rfl (fun _ hw=>zaQ (Rd.has (Has.rd hb) hw) rfl)) ?_
 refine ph_y (zbw rfl rfl) ?_
 refine ph_y (zaf rfl) ?_
 refine zaH rfl rfl (fun hgd=>by(try rw [hgd]); exact(zab zfe rfl)) ?_
 refine zaH rfl rfl (fun hgd=>by(try rw [hgd]); exact(zah 0 tf3 rfl rfl rfl)) ?_
 refine zaH rfl rfl (fun hgd=>by(try rw [hgd]); exact(zab zhg rfl)) ?_
 refine zaH rfl rfl (fun hgd=>by(try rw [hgd]); exact(zah 0 tf3 rfl rfl rfl)) ?_
 refine zaH rfl rfl (fun hgd=>by(try rw [hgd]); exact(zfw rfl rfl)) ?_
 refine zaH rfl rfl (fun hgd=>by(try rw [hgd]); exact(zab zne rfl)) ?_
 refine zaH rfl rfl (fun hgd=>by(try rw [hgd]); exact(zbW tf3 rfl (fun _ hw=>zaQ (Rd.has (Has.rd hb) hw) rfl))) ?_
 refine zaH rfl rfl (fun hgd=>by(try rw [hgd]); exact(zc6 rfl rfl)) ?_
 refine ph_y (zaX rfl rfl rfl) ?_
 refine ph_y (zad rfl) ?_
 refine zag (zae (T':=[(3,_)]) ⟨rfl,trivial⟩ ?_)
 refine zaw (zay (zaC rfl (zau rfl)) ?_)
 rfl
set_option maxRecDepth 100000 in
set_option maxHeartbeats 1000000 in
theorem zrj (o:Opn) (a:Option Addr) (cap:Nat) (s:Sht) (b:Nat) (w:World) (hb:Has w (Box b [.string s.name,.int .i64 s.base,.int .i64 s.batter,.int .i64 s.height,.int .i64 s.skin,.slice a s.heights.length cap,.int .i64 s.least,.int .i64 s.lap,.int .i64 s.run,.int .i64 s.every,.int .i64 s.at_,.int .i64 s.footing,.int .i64 s.spread,.int .u8 s.cope,.int .i64 s.tall,.int .i64 s.short,.int .i64 s.thick,.int .i64 s.low,.int .i64 s.high,.int .i64 s.rood] 41)) :
  Calls Tryz.prog 101 #[.agg #[.int .u8 o.kind,.int .i64 o.at_,.int .i64 o.width,.int .i64 o.frm,.int .i64 o.high],.pointer (some ⟨b,0,none⟩)] w (Pure (.bool (zno s.height o)) w):=by
 refine zan (vs:=[_,_]) Tryz.func101 rfl rfl (Nat.le_of_ble_eq_true rfl) ?_
 refine zac (zaa (zaG rfl rfl (za3 (vs:=[_,_,_,_,_]) rfl rfl) fun b2=>?_))
 refine gA ?_
 refine zag (zae (T':=[(1,_),(2,_),(3,_)]) ⟨rfl,rfl,rfl,trivial⟩ ?_)
 refine zac (zaa (gk_y rfl rfl (zab zfe rfl) ?_))
 refine gQ (zah 0 tf3 rfl rfl rfl) ?_
 refine gQ (zab zhg rfl) ?_
 refine gQ (zah 0 tf3 rfl rfl rfl) ?_
 refine gQ (zfw rfl rfl) ?_
 refine gQ (zab zep rfl) ?_
 refine gQ (zbW tf3 rfl (fun _ hw=>zaQ (Rd.has (Has.rd hb) hw) rfl)) ?_
 refine gQ (zbL rfl rfl) ?_
 refine gA ?_
 refine zag (zae (T':=[(3,_)]) ⟨rfl,trivial⟩ ?_)
 refine zaw (zay (zaC rfl (zau rfl)) ?_)
 rfl
theorem zwh {U:Nat→Prop} {w:World} {R S:Res} (h1:Rd U w R) (h2:Rd U w S):Rd U w (Two R S):=
 let ⟨C,hC,a⟩:=h1; let ⟨D,hD,b⟩:=h2; ⟨fun k=>C k∨D k,fun k h=>h.elim (hC k) (hD k),C,D,fun _ h=>.inl h,fun _ h=>.inr h,a,b⟩
theorem zum {w:World} {a:Option Addr} {l m:List Opn} (h:m=l) (hm:Has w (zaW a 5 zba m)):Has w (zaW a 5 zba l):=h ▸ hm
set_option maxRecDepth 100000 in
set_option maxHeartbeats 4000000 in
theorem zlM (b:Option Addr) (bcap:Nat) (v:Wll) (top:Int) (f:Opn→Bool) (gg:FuncId) (gcap:List Value) (hen:En Tryz.prog gg) (R:Res) (w:World) (hv:Has w (zaW b 5 zba v.opens)) (hF:WallF v top) (hR:Has w R) (hg:∀ (o:Opn) w',Has w' R→Calls Tryz.prog gg ([Value.agg (zba o).toArray]++gcap).toArray w' (Pure (.bool (f o)) w')) :
  Calls Tryz.prog 95 #[.agg #[.string v.name,.string v.sheet,.int .i64 v.length,.slice b v.opens.length bcap],.func (.func gg) #[] gcap.toArray] w (zcU (fun z:Option Addr×Nat=>.slice z.1 (zcW f v).length z.2) (fun z=>Row z.1 2 z.2 69 zbq (zcW f v)) w):=by
 have hnum:=hF.num
 have hlen:=hF.len
 have hfl:=List.length_filter_le f v.opens
 have hof:=zuo f v.opens
 refine zan (vs:=[_,_]) Tryz.func95 rfl rfl (Nat.le_of_ble_eq_true rfl) ?_
 refine zac (zaa (zaG rfl rfl (za3 (vs:=[_,_,_,_]) rfl rfl) fun b2=>?_))
 refine zaG rfl rfl (za3 (vs:=[_]) rfl rfl) fun b3=>?_
 refine gA ?_
 refine zag (zae (T':=[(2,_),(3,_),(4,_)]) ⟨rfl,rfl,rfl,trivial⟩ ?_)
 refine zac (zaa (gk_y rfl rfl (zab zhe rfl) ?_))
 refine gQ (zah 1 tf92 rfl rfl rfl) ?_
 refine zaG rfl rfl (zbm en68 rfl (fun w hw=>zrd _ _ v.opens w (Rd.has (Has.rd hv) hw) (by unfold Small; omega))) fun p8=>?_
 refine gQ (zbO («as»:=[]) (bs:=[_]) rfl rfl) ?_
 refine zjY 0 zw6 rfl rfl rfl (fun w B hF=>zkP _ _ v.opens (fun o=>!f o) 118 [.pointer (some ⟨b3,0,none⟩)] zw7 (Two (Box b3 [.func (.func gg) #[] gcap.toArray] 147) R) w B (fun k hk=>(hF.own k hk).2) hF.A (by unfold Small; omega) (zwh (hF.other 0 rfl) (hF.rd (Has.rd hR))) (fun o w' hm=>zoD o b3 f gg gcap hen R w' (ztZ hm) (zt0 hm) hg)) fun u10 hq10=>?_
 refine gA ?_
 refine zag (zae (T':=[(2,_),(4,_),(5,_)]) ⟨rfl,rfl,rfl,trivial⟩ ?_)
 refine zae (T':=[(2,_),(4,_),(5,.slice p8.1 (v.opens.filter f).length p8.2)]) ⟨rfl,rfl,(by rw [←hof]; rfl),trivial⟩ ?_
 refine zac (zaa (gk_y rfl rfl (zab zgo rfl) ?_))
 refine gQ (zah 2 tf3 rfl rfl rfl) ?_
 refine gM ?_
 refine zaG rfl rfl (zbm zw8 rfl (fun w hw=>zut _ _ _ (v.opens.filter f) w (zum hof (zl3 (l:=offL (fun o=>!f o) v.opens) (zam encOpn_ok (hw.has (p:=0) rfl)))) (by unfold Small; omega) (by omega) (by omega) (hF.inW f))) fun p14=>?_
 refine gA ?_
 refine zag (zae (T':=[(4,_)]) ⟨rfl,trivial⟩ ?_)
 refine zaw (zbd p14 0 (zaC rfl (zau rfl)) ?_ rfl)
 rfl
end Go.Proofs.YtdcfcfhmkfkgmaaGreatDoor
namespace Go.Proofs.YtdcfcfhmkfkgmaaGreatDoor
open Go.K Go.Stn Go.Pln Go.RowKit
theorem zvb  (w:World):(Instr.build 94 #[]).run Tryz.prog w=.ok (.agg #[.string ⟨#[]⟩,.string ⟨#[]⟩,.int IntKind.i64 0,.slice none 0 0]) w:=by kernel_rfl
theorem zhG {w:World} {S:List ShC} {V:List WlC} {n:ByteArray} (h:∀ z∈S,Has w (Ints z.a z.s.heights)):Has w (Ints (zar S V n).a (zar S V n).s.heights):=by
 unfold zar
 split
 ·exact zpL h
 ·exact⟨fun _=>False,fun _ h=>h.elim,.inl rfl⟩
theorem zfL {w:World} {S:List ShC} {V:List WlC} {n:ByteArray} (h:∀ z∈V,Has w (zaW z.a 5 zba z.s.opens)):Has w (zaW (zaN S V n).a 5 zba (zaN S V n).s.opens):=by
 unfold zaN zhq
 split
 ·split
  ·rename_i hk
   exact h _ (za0 (by have:=zky hk; omega))
  ·exact⟨fun _=>False,fun _ h=>h.elim,.inl rfl⟩
 ·exact⟨fun _=>False,fun _ h=>h.elim,.inl rfl⟩
set_option maxRecDepth 100000 in
set_option maxHeartbeats 8000000 in
theorem zm9 (a:Option Addr) (cap:Nat) (S:List ShC) (b:Option Addr) (bcap:Nat) (V:List WlC) (n:ByteArray) (w:World) (hl:Has w (zaW a 20 zbH S)) (hs:Small S.length) (hcS:S.length≤cap) (hlw:Has w (zaW b 4 zbS V)) (hsw:Small V.length) (hsh:∀ z∈S,Has w (Ints z.a z.s.heights)) (hss:∀ z∈S,Small z.s.heights.length) (hwo:∀ z∈V,Has w (zaW z.a 5 zba z.s.opens)) (hsv:∀ z∈V,Small z.s.opens.length) (hcp:∀ z∈V,z.s.opens.length≤z.cap) (hkn:∀ z∈V,∀ o∈z.s.opens,Knd o) :
  Calls Tryz.prog 62 #[.agg #[.slice a S.length cap,.slice b V.length bcap],.string n] w (Pure (.tuple #[.agg (zbS (zaN S V n)).toArray,.agg (zbH (zar S V n)).toArray,.int .i64 (zb6 S V n)]) w):=by
 have hlt:=fun h=>zky (S:=V) (n:=n) h
 have hge:-1≤zaM V n:=zrp _ _
 refine zan (vs:=[_,_]) Tryz.func62 rfl rfl (Nat.le_of_ble_eq_true rfl) ?_
 refine zac (zaa (zaG rfl rfl (za3 (vs:=[_,_]) rfl rfl) fun b2=>?_))
 refine zaG rfl rfl (zaL tf94 (zs:=[_,_,_,_]) rfl) fun b4=>?_
 refine zaG rfl rfl (zaL tf41 (zs:=[_,_,_,_,_,_,_,_,_,_,_,_,_,_,_,_,_,_,_,_]) rfl) fun b5=>?_
 refine gA ?_
 refine zag (zae (T':=[(1,_),(2,_),(4,_),(5,_),(6,_)]) ⟨rfl,rfl,rfl,rfl,rfl,trivial⟩ ?_)
 refine zac (zac (zaa (gk_y rfl rfl (zat 2 tf31 rfl rfl (vs:=[_,_]) rfl rfl) ?_)))
 refine gQ (zaJ en16 rfl (fun w hw=>ztt _ _ S _ _ V w (Rd.has (Has.rd hl) hw) hs hcS (Rd.has (Has.rd hlw) hw) hsw (fun z hz=>(Rd.has (Has.rd (hsh z hz)) hw)) hss (fun z hz=>(Rd.has (Has.rd (hwo z hz)) hw)) hsv hcp hkn)) ?_
 refine gA ?_
 refine zag (zae (T':=[(1,_),(2,_),(4,_),(5,_),(6,_),(7,_)]) ⟨rfl,rfl,rfl,rfl,rfl,rfl,trivial⟩ ?_)
 refine zac (zaa (gM ?_))
 refine gQ (zcr rfl rfl) ?_
 refine zag (zae (T':=[(1,_),(2,_),(4,_),(5,_),(6,_),(7,_),(14,_)]) ⟨rfl,rfl,rfl,rfl,rfl,rfl,rfl,trivial⟩ ?_)
 refine zap rfl (fun hc14=>?_) (fun hc14=>?_)
 ·have hP:¬ zc4 S V=true:=fun h=>by rw [zeW,if_pos h] at hc14; simp at hc14
  have hE:zb6 S V n=2:=zm8 hP
  have hC:zeW S V=2:=if_neg hP
  refine zac (zaa (gk_y rfl rfl (zaI (parts:=[]) rfl zvb) ?_))
  refine gQ (zaI (parts:=[]) rfl ztl) ?_
  refine gM ?_
  refine zaA 1 tf94 rfl rfl (vs:=[_,_,_,_]) rfl rfl rfl rfl rfl ?_
  refine zbz 0 tf41 rfl rfl (vs:=[_,_,_,_,_,_,_,_,_,_,_,_,_,_,_,_,_,_,_,_]) rfl rfl rfl rfl rfl ?_
  refine gA ?_
  refine zag (zae (T':=[(1,_),(2,_),(4,_),(5,_),(6,_)]) ⟨rfl,rfl,rfl,rfl,rfl,trivial⟩ ?_)
  refine zaw (zay (zdh rfl (zbU (i:=1) (vs:=[_,_,_,_]) tf94 rfl rfl rfl rfl) (zbU (i:=0) (vs:=[.string ⟨#[]⟩,.int .i64 0,.int .i64 0,.int .i64 0,.int .i64 0,.slice none 0 0,.int .i64 0,.int .i64 0,.int .i64 0,.int .i64 0,.int .i64 0,.int .i64 0,.int .i64 0,.int .u8 0,.int .i64 0,.int .i64 0,.int .i64 0,.int .i64 0,.int .i64 0,.int .i64 0]) tf41 rfl rfl rfl rfl) (zau rfl)) ?_)
  rw [hC]; rw [show zaN S V n=default from if_neg (by rw [hE]; decide),show zar S V n=default from if_neg (by rw [hE]; decide),hE]; rfl
 ·have hP:zc4 S V=true:=Classical.byContradiction fun h=>by rw [zeW,if_neg h] at hc14; simp at hc14
  refine zaq (zac (zaa (gk_y rfl rfl (zat 2 tf31 rfl rfl (vs:=[_,_]) rfl rfl) ?_)))
  refine gM ?_
  refine gQ (zaJ en47 rfl (fun w hw=>zkg _ _ _ _ _ V _ w (Rd.has (Has.rd hlw) hw) (by assumption))) ?_
  refine gA ?_
  refine zag (zae (T':=[(2,_),(4,_),(5,_),(6,_),(8,_)]) ⟨rfl,rfl,rfl,rfl,rfl,trivial⟩ ?_)
  refine zac (zac (zaa (gM ?_)))
  refine gQ (zbw rfl rfl) ?_
  refine zag (zae (T':=[(2,_),(4,_),(5,_),(6,_),(8,_),(22,_)]) ⟨rfl,rfl,rfl,rfl,rfl,rfl,trivial⟩ ?_)
  refine zap rfl (fun hc22=>?_) (fun hc22=>?_)
  ·have hc22:=of_decide_eq_true hc22
   have hE:zb6 S V n=6:=zkV hP (by omega)
   refine zac (zaa (gk_y rfl rfl (zaI (parts:=[]) rfl zvb) ?_))
   refine gQ (zaI (parts:=[]) rfl ztl) ?_
   refine zaA 1 tf94 rfl rfl (vs:=[_,_,_,_]) rfl rfl rfl rfl rfl ?_
   refine zbz 0 tf41 rfl rfl (vs:=[_,_,_,_,_,_,_,_,_,_,_,_,_,_,_,_,_,_,_,_]) rfl rfl rfl rfl rfl ?_
   refine gA ?_
   refine zag (zae (T':=[(2,_),(4,_),(5,_),(6,_),(8,_)]) ⟨rfl,rfl,rfl,rfl,rfl,trivial⟩ ?_)
   refine zaw (zay (zdh rfl (zbU (i:=1) (vs:=[_,_,_,_]) tf94 rfl rfl rfl rfl) (zbU (i:=0) (vs:=[.string ⟨#[]⟩,.int .i64 0,.int .i64 0,.int .i64 0,.int .i64 0,.slice none 0 0,.int .i64 0,.int .i64 0,.int .i64 0,.int .i64 0,.int .i64 0,.int .i64 0,.int .i64 0,.int .u8 0,.int .i64 0,.int .i64 0,.int .i64 0,.int .i64 0,.int .i64 0,.int .i64 0]) tf41 rfl rfl rfl rfl) (zau rfl)) ?_)
   rw [show zaN S V n=default from if_neg (by rw [hE]; decide),show zar S V n=default from if_neg (by rw [hE]; decide),hE]; rfl
  ·have hc22:=of_decide_eq_false hc22
   have h0:0≤zaM V n:=by omega
   have h1:=hlt h0
   have hE:zb6 S V n=0:=zpp hP h0
   refine zaq (zac (zf3 (ch [(11,Nat)]) 14 [0,0,2,0,14,30,62,127,255,511,511,0,3071,8191] (fun _=>mixed) (by kernel_rfl) (zjK _ ⟨inferInstance,trivial⟩) ?_))
   refine zbD (fun ρ=>zat 2 tf31 rfl rfl (vs:=[_,_]) rfl rfl) (fun ρ ρ' h=>by rfl) ?_
   refine zbD (fun ρ=>zab zd7 rfl) (fun ρ ρ' h=>by rfl) ?_
   refine zbD (fun ρ=>zah 2 tf29 rfl rfl rfl) (fun ρ ρ' h=>by rfl) ?_
   refine zbD (fun ρ=>zaf rfl) (fun ρ ρ' h=>by rfl) ?_
   refine zbD (fun ρ=>zaE se29 rfl rfl (fun _ hw=>(Rd.has (Has.rd hlw) hw)) (by omega) (by omega)) (fun ρ ρ' h=>by rfl) ?_
   refine zbD (fun ρ=>zbh zni rfl (fun w hw=>zaO (i:=(zaM V n)) (Rd.has (Has.rd hlw) hw) (by omega) (by omega))) (fun ρ ρ' h=>by rfl) ?_
   refine zbD (fun ρ=>zbn tf9 rfl (fun _ hw=>(Rd.has (Has.rd hlw) hw)) (by omega) (by omega) rfl) (fun ρ ρ' h=>by rfl) ?_
   refine zbD (fun ρ=>zaJ en46 rfl (fun w hw=>zeu _ _ S _ _ _ _ w (Rd.has (Has.rd hl) hw) (by assumption))) (fun ρ ρ' h=>by rfl) ?_
   refine zbD (fun ρ=>zaf rfl) (fun ρ ρ' h=>by rfl) ?_
   refine zbD (fun ρ=>zaB rfl rfl) (fun ρ ρ' h=>by rfl) ?_
   refine zbD (fun ρ=>zaB rfl rfl) (fun ρ ρ' h=>by rfl) ?_
   refine zgB (fun ρ=>zaL tf41 (zs:=[_,_,_,_,_,_,_,_,_,_,_,_,_,_,_,_,_,_,_,_]) rfl) (fun ρ ρ' h=>⟨by rfl,by rfl⟩) ?_
   refine zlr (R:=fun ρ=>Box (ρ 11) [.string ⟨#[]⟩,.int .i64 0,.int .i64 0,.int .i64 0,.int .i64 0,.slice none 0 0,.int .i64 0,.int .i64 0,.int .i64 0,.int .i64 0,.int .i64 0,.int .i64 0,.int .i64 0,.int .u8 0,.int .i64 0,.int .i64 0,.int .i64 0,.int .i64 0,.int .i64 0,.int .i64 0] 41) (A:=fun ρ=>Box (ρ 11) [.string (zav S ((V.getD ((zaM V n)).toNat default).s.sheet)).s.name,.int .i64 ((zav S ((V.getD ((zaM V n)).toNat default).s.sheet)).s.base),.int .i64 ((zav S ((V.getD ((zaM V n)).toNat default).s.sheet)).s.batter),.int .i64 ((zav S ((V.getD ((zaM V n)).toNat default).s.sheet)).s.height),.int .i64 ((zav S ((V.getD ((zaM V n)).toNat default).s.sheet)).s.skin),.slice (zav S ((V.getD ((zaM V n)).toNat default).s.sheet)).a (zav S ((V.getD ((zaM V n)).toNat default).s.sheet)).s.heights.length (zav S ((V.getD ((zaM V n)).toNat default).s.sheet)).cap,.int .i64 ((zav S ((V.getD ((zaM V n)).toNat default).s.sheet)).s.least),.int .i64 ((zav S ((V.getD ((zaM V n)).toNat default).s.sheet)).s.lap),.int .i64 ((zav S ((V.getD ((zaM V n)).toNat default).s.sheet)).s.run),.int .i64 ((zav S ((V.getD ((zaM V n)).toNat default).s.sheet)).s.every),.int .i64 ((zav S ((V.getD ((zaM V n)).toNat default).s.sheet)).s.at_),.int .i64 ((zav S ((V.getD ((zaM V n)).toNat default).s.sheet)).s.footing),.int .i64 ((zav S ((V.getD ((zaM V n)).toNat default).s.sheet)).s.spread),.int .u8 (zav S ((V.getD ((zaM V n)).toNat default).s.sheet)).s.cope,.int .i64 ((zav S ((V.getD ((zaM V n)).toNat default).s.sheet)).s.tall),.int .i64 ((zav S ((V.getD ((zaM V n)).toNat default).s.sheet)).s.short),.int .i64 ((zav S ((V.getD ((zaM V n)).toNat default).s.sheet)).s.thick),.int .i64 ((zav S ((V.getD ((zaM V n)).toNat default).s.sheet)).s.low),.int .i64 ((zav S ((V.getD ((zaM V n)).toNat default).s.sheet)).s.high),.int .i64 ((zav S ((V.getD ((zaM V n)).toNat default).s.sheet)).s.rood)] 41) 11 rfl rfl (fun _=>rfl) (fun ρ=>zex tf41 rfl rfl (vs:=[_,_,_,_,_,_,_,_,_,_,_,_,_,_,_,_,_,_,_,_]) rfl rfl rfl rfl rfl) (fun ρ ρ' h=>by(first | rfl | simp only [h 11 rfl])) ?_
   refine zbD (fun ρ=>zad rfl) (fun ρ ρ' h=>by rfl) ?_
   refine fun ρ=>zag (zf4 (X:=Nat) (ρ 11) (fun b9=>[(2,.pointer (some ⟨b2,0,none⟩)),(4,.pointer (some ⟨b4,0,none⟩)),(5,.pointer (some ⟨b5,0,none⟩)),(6,.int .i64 0),(8,.int .i64 (zaM V n)),(9,.pointer (some ⟨b9,0,none⟩))]) (fun b9=>[Box b9 [.string (zav S ((V.getD ((zaM V n)).toNat default).s.sheet)).s.name,.int .i64 ((zav S ((V.getD ((zaM V n)).toNat default).s.sheet)).s.base),.int .i64 ((zav S ((V.getD ((zaM V n)).toNat default).s.sheet)).s.batter),.int .i64 ((zav S ((V.getD ((zaM V n)).toNat default).s.sheet)).s.height),.int .i64 ((zav S ((V.getD ((zaM V n)).toNat default).s.sheet)).s.skin),.slice (zav S ((V.getD ((zaM V n)).toNat default).s.sheet)).a (zav S ((V.getD ((zaM V n)).toNat default).s.sheet)).s.heights.length (zav S ((V.getD ((zaM V n)).toNat default).s.sheet)).cap,.int .i64 ((zav S ((V.getD ((zaM V n)).toNat default).s.sheet)).s.least),.int .i64 ((zav S ((V.getD ((zaM V n)).toNat default).s.sheet)).s.lap),.int .i64 ((zav S ((V.getD ((zaM V n)).toNat default).s.sheet)).s.run),.int .i64 ((zav S ((V.getD ((zaM V n)).toNat default).s.sheet)).s.every),.int .i64 ((zav S ((V.getD ((zaM V n)).toNat default).s.sheet)).s.at_),.int .i64 ((zav S ((V.getD ((zaM V n)).toNat default).s.sheet)).s.footing),.int .i64 ((zav S ((V.getD ((zaM V n)).toNat default).s.sheet)).s.spread),.int .u8 (zav S ((V.getD ((zaM V n)).toNat default).s.sheet)).s.cope,.int .i64 ((zav S ((V.getD ((zaM V n)).toNat default).s.sheet)).s.tall),.int .i64 ((zav S ((V.getD ((zaM V n)).toNat default).s.sheet)).s.short),.int .i64 ((zav S ((V.getD ((zaM V n)).toNat default).s.sheet)).s.thick),.int .i64 ((zav S ((V.getD ((zaM V n)).toNat default).s.sheet)).s.low),.int .i64 ((zav S ((V.getD ((zaM V n)).toNat default).s.sheet)).s.high),.int .i64 ((zav S ((V.getD ((zaM V n)).toNat default).s.sheet)).s.rood)] 41,Box b5 [.string ⟨#[]⟩,.int .i64 0,.int .i64 0,.int .i64 0,.int .i64 0,.slice none 0 0,.int .i64 0,.int .i64 0,.int .i64 0,.int .i64 0,.int .i64 0,.int .i64 0,.int .i64 0,.int .u8 0,.int .i64 0,.int .i64 0,.int .i64 0,.int .i64 0,.int .i64 0,.int .i64 0] 41,Box b4 [.string ⟨#[]⟩,.string ⟨#[]⟩,.int .i64 0,.slice none 0 0] 94,Box b2 [.slice a S.length cap,.slice b V.length bcap] 31]) ⟨rfl,rfl,rfl,rfl,rfl,rfl,trivial⟩ rfl ?_)
   rintro b9
   refine zac (zpN (R':=Box b4 [.string (V.getD ((zaM V n)).toNat default).s.name,.string (V.getD ((zaM V n)).toNat default).s.sheet,.int .i64 ((V.getD ((zaM V n)).toNat default).s.length),.slice (V.getD ((zaM V n)).toNat default).a (V.getD ((zaM V n)).toNat default).s.opens.length (V.getD ((zaM V n)).toNat default).cap] 94) 6 [5] 2 (fun _=>mixed) rfl rfl (by kernel_rfl) rfl ?_)
   refine zcf (zab zd7 rfl) ?_
   refine zcf (zah 3 tf29 rfl rfl rfl) ?_
   refine zcf (zaf rfl) ?_
   refine zcf (zaE se29 rfl rfl (fun _ hw=>(Rd.has (Has.rd hlw) hw)) (by omega) (by omega)) ?_
   refine zcf (zbv (vs:=[_,_,_,_]) tf94 rfl (fun _ hw=>(Rd.has (Has.rd hlw) hw)) (by omega) (by omega) rfl) ?_
   refine zcf (zat 0 tf41 rfl rfl (vs:=[_,_,_,_,_,_,_,_,_,_,_,_,_,_,_,_,_,_,_,_]) rfl rfl) ?_
   refine⟨zex tf94 rfl rfl (vs:=[_,_,_,_]) rfl rfl rfl rfl rfl,?_⟩
   refine zae (T':=[(4,_),(5,_),(6,_),(41,_)]) ⟨rfl,rfl,rfl,rfl,trivial⟩ ?_
   refine zbz 1 tf41 rfl rfl (vs:=[_,_,_,_,_,_,_,_,_,_,_,_,_,_,_,_,_,_,_,_]) rfl rfl rfl rfl rfl ?_
   refine gA ?_
   refine zag (zae (T':=[(4,_),(5,_),(6,_)]) ⟨rfl,rfl,rfl,trivial⟩ ?_)
   refine zaw (zay (zdh rfl (zbU (i:=2) (vs:=[_,_,_,_]) tf94 rfl rfl rfl rfl) (zbU (i:=1) (vs:=[.string (zav S ((V.getD ((zaM V n)).toNat default).s.sheet)).s.name,.int .i64 ((zav S ((V.getD ((zaM V n)).toNat default).s.sheet)).s.base),.int .i64 ((zav S ((V.getD ((zaM V n)).toNat default).s.sheet)).s.batter),.int .i64 ((zav S ((V.getD ((zaM V n)).toNat default).s.sheet)).s.height),.int .i64 ((zav S ((V.getD ((zaM V n)).toNat default).s.sheet)).s.skin),.slice (zav S ((V.getD ((zaM V n)).toNat default).s.sheet)).a (zav S ((V.getD ((zaM V n)).toNat default).s.sheet)).s.heights.length (zav S ((V.getD ((zaM V n)).toNat default).s.sheet)).cap,.int .i64 ((zav S ((V.getD ((zaM V n)).toNat default).s.sheet)).s.least),.int .i64 ((zav S ((V.getD ((zaM V n)).toNat default).s.sheet)).s.lap),.int .i64 ((zav S ((V.getD ((zaM V n)).toNat default).s.sheet)).s.run),.int .i64 ((zav S ((V.getD ((zaM V n)).toNat default).s.sheet)).s.every),.int .i64 ((zav S ((V.getD ((zaM V n)).toNat default).s.sheet)).s.at_),.int .i64 ((zav S ((V.getD ((zaM V n)).toNat default).s.sheet)).s.footing),.int .i64 ((zav S ((V.getD ((zaM V n)).toNat default).s.sheet)).s.spread),.int .u8 (zav S ((V.getD ((zaM V n)).toNat default).s.sheet)).s.cope,.int .i64 ((zav S ((V.getD ((zaM V n)).toNat default).s.sheet)).s.tall),.int .i64 ((zav S ((V.getD ((zaM V n)).toNat default).s.sheet)).s.short),.int .i64 ((zav S ((V.getD ((zaM V n)).toNat default).s.sheet)).s.thick),.int .i64 ((zav S ((V.getD ((zaM V n)).toNat default).s.sheet)).s.low),.int .i64 ((zav S ((V.getD ((zaM V n)).toNat default).s.sheet)).s.high),.int .i64 ((zav S ((V.getD ((zaM V n)).toNat default).s.sheet)).s.rood)]) tf41 rfl rfl rfl rfl) (zau rfl)) ?_)
   rw [zhF hE,zhE hE,hE,show zhq V n=V.getD (zaM V n).toNat default from if_pos h0]
end Go.Proofs.YtdcfcfhmkfkgmaaGreatDoor
namespace Go.Proofs.YtdcfcfhmkfkgmaaGreatDoor
open Go.K Go.Stn Go.Pln Go.RowKit
theorem en62:En Tryz.prog 62:=za7 Tryz.func62 (by kernel_rfl) (by kernel_rfl)
theorem en63:En Tryz.prog 63:=za7 Tryz.func63 (by kernel_rfl) (by kernel_rfl)
theorem en95:En Tryz.prog 95:=za7 Tryz.func95 (by kernel_rfl) (by kernel_rfl)
theorem en96:En Tryz.prog 96:=za7 Tryz.func96 (by kernel_rfl) (by kernel_rfl)
set_option maxRecDepth 100000 in
set_option maxHeartbeats 1000000 in
theorem zoZ (b:Option Addr) (bcap:Nat) (v:Wll) (c:Crs) (top:Int) (w:World) (hv:Has w (zaW b 5 zba v.opens)) (hF:WallF v top) (ht:top≤3000) :
  Calls Tryz.prog 63 #[.agg #[.string v.name,.string v.sheet,.int .i64 v.length,.slice b v.opens.length bcap],.agg #[.int .i64 c.frm,.int .i64 c.to]] w (zcU (fun z:Option Addr×Nat=>.slice z.1 (zbg v c).length z.2) (fun z=>Row z.1 2 z.2 69 zbq (zbg v c)) w):=by
 refine zan (vs:=[_,_]) Tryz.func63 rfl rfl (Nat.le_of_ble_eq_true rfl) ?_
 refine zac (zaa (zaG rfl rfl (za3 (vs:=[_,_,_,_]) rfl rfl) fun b2=>?_))
 refine zaG rfl rfl (za3 (vs:=[_,_]) rfl rfl) fun b3=>?_
 refine gA ?_
 refine zag (zae (T':=[(2,_),(3,_),(4,_)]) ⟨rfl,rfl,rfl,trivial⟩ ?_)
 refine zac (zaa (gk_y rfl rfl (zat 1 tf94 rfl rfl (vs:=[_,_,_,_]) rfl rfl) ?_))
 refine gQ (zbO («as»:=[]) (bs:=[_]) rfl rfl) ?_
 refine zaG rfl rfl (zbm en95 rfl (fun w hw=>zlM _ _ v top (znn c) 96 [.pointer (some ⟨b3,0,none⟩)] en96 (Box b3 [.int .i64 c.frm,.int .i64 c.to] 49) w (Rd.has (Has.rd hv) hw) hF (hw.has (p:=0) rfl) (fun o w' hm=>ztj o c b3 w' hm))) fun p7=>?_
 refine gA ?_
 refine zag (zae (T':=[(4,_)]) ⟨rfl,trivial⟩ ?_)
 refine zaw (zbd p7 0 (zaC rfl (zau rfl)) ?_ (by rw [←zmV hF ht c]; rfl))
 rw [zmV hF ht c]
set_option maxRecDepth 100000 in
set_option maxHeartbeats 8000000 in
theorem zu1 (a:Option Addr) (cap:Nat) (S:List ShC) (b:Option Addr) (bcap:Nat) (V:List WlC) (n:ByteArray) (k:Int) (w:World) (hl:Has w (zaW a 20 zbH S)) (hs:Small S.length) (hcS:S.length≤cap) (hlw:Has w (zaW b 4 zbS V)) (hsw:Small V.length) (hsh:∀ z∈S,Has w (Ints z.a z.s.heights)) (hss:∀ z∈S,Small z.s.heights.length) (hwo:∀ z∈V,Has w (zaW z.a 5 zba z.s.opens)) (hsv:∀ z∈V,Small z.s.opens.length) (hcp:∀ z∈V,z.s.opens.length≤z.cap) (hkn:∀ z∈V,∀ o∈z.s.opens,Knd o) :
  Calls Tryz.prog 26 #[.agg #[.slice a S.length cap,.slice b V.length bcap],.string n,.int .i64 k] w (zcU (fun z:Option Addr×Nat=>.tuple #[.slice z.1 (ziX S V n k).length z.2,.int .i64 (zhJ S V n k)]) (fun z=>Row z.1 2 z.2 69 zbq (ziX S V n k)) w):=by
 refine zan (vs:=[_,_,_]) Tryz.func26 rfl rfl (Nat.le_of_ble_eq_true rfl) ?_
 refine zac (zaa (zaG rfl rfl (za3 (vs:=[_,_]) rfl rfl) fun b3=>?_))
 refine gA ?_
 refine gA ?_
 refine zag (zae (T':=[(1,_),(2,_),(3,_),(6,_),(7,_)]) ⟨rfl,rfl,rfl,rfl,rfl,trivial⟩ ?_)
 refine zac (zaa (gk_y rfl rfl (zat 0 tf31 rfl rfl (vs:=[_,_]) rfl rfl) ?_))
 refine gM ?_
 refine gQ (zaJ en62 rfl (fun w hw=>zm9 _ _ S _ _ V n w (Rd.has (Has.rd hl) hw) hs hcS (Rd.has (Has.rd hlw) hw) hsw (fun z hz=>(Rd.has (Has.rd (hsh z hz)) hw)) hss (fun z hz=>(Rd.has (Has.rd (hwo z hz)) hw)) hsv hcp hkn)) ?_
 refine gM ?_
 refine gQ (zaB rfl rfl) ?_
 refine gQ (zaB rfl rfl) ?_
 refine gQ (zaB rfl rfl) ?_
 refine zaG rfl rfl (zaL tf94 (zs:=[_,_,_,_]) rfl) fun b8=>?_
 refine zaG rfl rfl (zaL tf41 (zs:=[_,_,_,_,_,_,_,_,_,_,_,_,_,_,_,_,_,_,_,_]) rfl) fun b9=>?_
 refine zaA 1 tf94 rfl rfl (vs:=[_,_,_,_]) rfl rfl rfl rfl rfl ?_
 refine zbz 0 tf41 rfl rfl (vs:=[_,_,_,_,_,_,_,_,_,_,_,_,_,_,_,_,_,_,_,_]) rfl rfl rfl rfl rfl ?_
 refine gA ?_
 refine zag (zae (T':=[(2,_),(6,_),(7,_),(8,_),(9,_),(10,_)]) ⟨rfl,rfl,rfl,rfl,rfl,rfl,trivial⟩ ?_)
 refine zac (zac (zaa (gM ?_)))
 refine gQ (zcr rfl rfl) ?_
 refine zag (zae (T':=[(2,_),(6,_),(7,_),(8,_),(9,_),(10,_),(20,_)]) ⟨rfl,rfl,rfl,rfl,rfl,rfl,rfl,trivial⟩ ?_)
 refine zap rfl (fun hc20=>?_) (fun hc20=>?_)
 ·have hE:¬ zb6 S V n=0:=by simpa using hc20
  obtain⟨e1,e2⟩:=zra (k:=k) hE
  refine zbB 69 zbq 2 ?_
  refine zac (zaa (gM ?_))
  refine gA ?_
  refine gA ?_
  refine zag (zae (T':=[(2,_),(6,_),(7,_),(8,_),(9,_)]) ⟨rfl,rfl,rfl,rfl,rfl,trivial⟩ ?_)
  refine zaw (zbd (none,0) 0 (zc2 rfl (zau rfl) (zau rfl)) ?_ (by rw [e2]; rfl))
  rw [e1,e2] <;> rfl
 ·have hE:zb6 S V n=0:=by simpa using hc20
  obtain⟨m1,m2,hsp,hF⟩:=zfu hE
  have hnm:=zaZ hsp
  have htop:=hnm.height
  refine zaq (zac (zaa (gk_y rfl rfl (zat 0 tf41 rfl rfl (vs:=[_,_,_,_,_,_,_,_,_,_,_,_,_,_,_,_,_,_,_,_]) rfl rfl) ?_)))
  refine zaG rfl rfl (zbm en49 rfl (fun w hw=>ze3 ((zar S V n).a) ((zar S V n).cap) ((zar S V n).s) w (Rd.has (Has.rd (zhG hsh)) hw) hnm)) fun p23=>?_
  refine gA ?_
  refine zag (zae (T':=[(2,_),(6,_),(7,_),(8,_),(11,_)]) ⟨rfl,rfl,rfl,rfl,rfl,trivial⟩ ?_)
  refine zac (zac (zbb 8 (fun _=>mixed) (by kernel_rfl) ?_))
  refine ph_y (zaf rfl) ?_
  refine ph_y (zbw rfl rfl) ?_
  refine ph_y (zaf rfl) ?_
  refine zaz rfl rfl (fun hgd=>by(try rw [hgd]); exact(zaf rfl)) ?_
  refine zaz rfl rfl (fun hgd=>by(try rw [hgd]); exact(zaf rfl)) ?_
  refine zaz rfl rfl (fun hgd=>by(try rw [hgd]); exact(zaV (Tryz.underlying38) rfl)) ?_
  refine zaz rfl rfl (fun hgd=>by(try rw [hgd]); exact(zfx rfl rfl)) ?_
  refine ph_y (zaR rfl rfl rfl) ?_
  refine zag (zae (T':=[(2,_),(6,_),(7,_),(8,_),(11,_),(31,_)]) ⟨rfl,rfl,rfl,rfl,rfl,rfl,trivial⟩ ?_)
  refine zap rfl (fun hc31=>?_) (fun hc31=>?_)
  ·obtain⟨e1,e2⟩:=zoX (k:=k) hE (by simpa only [Bool.or_eq_true,decide_eq_true_eq] using hc31)
   refine zbB 69 zbq 2 ?_
   refine zac (zaa (gA ?_))
   refine gA ?_
   refine zag (zae (T':=[(2,_),(6,_),(7,_),(8,_),(11,_)]) ⟨rfl,rfl,rfl,rfl,rfl,trivial⟩ ?_)
   refine zaw (zbd (none,0) 0 (zc2 rfl (zau rfl) (zau rfl)) ?_ (by rw [e2]; rfl))
   rw [e1,e2] <;> rfl
  ·have hk:¬ (k < 0∨((zaj (zar S V n).s).length:Int)≤k):=by simp only [Bool.or_eq_false_iff,decide_eq_false_iff_not] at hc31; omega
   obtain⟨e1,e2⟩:=zmT (k:=k) hE hk
   refine zaq (zac (zbb 6 (fun _=>mixed) (by kernel_rfl) ?_))
   refine ph_y (zat 2 tf94 rfl rfl (vs:=[_,_,_,_]) rfl rfl) ?_
   refine ph_y (zaf rfl) ?_
   refine ph_y (zaf rfl) ?_
   refine ph_y (zaE se38 rfl rfl (fun _ hw=>(zam zax (hw.has (p:=0) rfl))) (by omega) (by omega)) ?_
   refine ph_y (zbv (vs:=[_,_]) tf49 rfl (fun _ hw=>(zam zax (hw.has (p:=0) rfl))) (by omega) (by omega) rfl) ?_
   refine zmr (zbm en63 rfl (fun w hw=>zoZ _ _ (zaN S V n).s ((zaj (zar S V n).s).getD k.toNat default) _ w (Rd.has (Has.rd (zfL hwo)) hw) hF (by omega))) ?_
   intro p37
   refine zae (T':=[(6,_),(7,_),(37,_)]) ⟨rfl,rfl,rfl,trivial⟩ ?_
   refine gA ?_
   refine gA ?_
   refine zag (zae (T':=[(6,_),(7,_)]) ⟨rfl,rfl,trivial⟩ ?_)
   refine zaw (zbd p37 0 (zc2 rfl (zau rfl) (zau rfl)) ?_ (by rw [e2]; rfl))
   rw [e1,e2] <;> rfl
end Go.Proofs.YtdcfcfhmkfkgmaaGreatDoor
namespace Go.Proofs.YtdcfcfhmkfkgmaaGreatDoor
open Go.K Go.Stn Go.Pln Go.RowKit
theorem zpz:FO Tryz.prog 69 0 0:=⟨by kernel_rfl⟩
theorem zng:FO Tryz.prog 69 1 1:=⟨by kernel_rfl⟩
theorem en97:En Tryz.prog 97:=za7 Tryz.func97 (by kernel_rfl) (by kernel_rfl)
theorem en98:En Tryz.prog 98:=za7 Tryz.func98 (by kernel_rfl) (by kernel_rfl)
theorem en99:En Tryz.prog 99:=za7 Tryz.func99 (by kernel_rfl) (by kernel_rfl)
theorem zwY:En Tryz.prog 100:=za7 Tryz.func100 (by kernel_rfl) (by kernel_rfl)
set_option maxRecDepth 100000 in
set_option maxHeartbeats 1000000 in
theorem zwn (c:Crs) (a:Option Addr) (cap:Nat) (s:Sht) (b:Nat) (w:World) (hb:Has w (Box b [.string s.name,.int .i64 s.base,.int .i64 s.batter,.int .i64 s.height,.int .i64 s.skin,.slice a s.heights.length cap,.int .i64 s.least,.int .i64 s.lap,.int .i64 s.run,.int .i64 s.every,.int .i64 s.at_,.int .i64 s.footing,.int .i64 s.spread,.int .u8 s.cope,.int .i64 s.tall,.int .i64 s.short,.int .i64 s.thick,.int .i64 s.low,.int .i64 s.high,.int .i64 s.rood] 41)) :
  Calls Tryz.prog 98 #[.agg #[.int .i64 c.frm,.int .i64 c.to],.pointer (some ⟨b,0,none⟩)] w (Pure (.bool (decide (s.at_≤c.frm))) w):=by
 refine zan (vs:=[_,_]) Tryz.func98 rfl rfl (Nat.le_of_ble_eq_true rfl) ?_
 refine zac (zaa (zaG rfl rfl (za3 (vs:=[_,_]) rfl rfl) fun b2=>?_))
 refine gA ?_
 refine zag (zae (T':=[(1,_),(2,_),(3,_)]) ⟨rfl,rfl,rfl,trivial⟩ ?_)
 refine zac (zaa (gk_y rfl rfl (zab zne rfl) ?_))
 refine gQ (zah 0 tf3 rfl rfl rfl) ?_
 refine gQ (zab zh9 rfl) ?_
 refine gQ (zbW tf3 rfl (fun _ hw=>zaQ (Rd.has (Has.rd hb) hw) rfl)) ?_
 refine gQ (zfx rfl rfl) ?_
 refine gA ?_
 refine zag (zae (T':=[(3,_)]) ⟨rfl,trivial⟩ ?_)
 refine zaw (zay (zaC rfl (zau rfl)) ?_)
 rfl
set_option maxRecDepth 100000 in
set_option maxHeartbeats 1000000 in
theorem zwo (c:Crs) (x:Int) (b:Nat) (w:World) (hb:Has w (Box b [.int .i64 x] 3)) :
  Calls Tryz.prog 100 #[.agg #[.int .i64 c.frm,.int .i64 c.to],.pointer (some ⟨b,0,none⟩)] w (Pure (.bool (decide (c.frm < x)&&decide (x < c.to))) w):=by
 refine zan (vs:=[_,_]) Tryz.func100 rfl rfl (Nat.le_of_ble_eq_true rfl) ?_
 refine zac (zaa (zaG rfl rfl (za3 (vs:=[_,_]) rfl rfl) fun b2=>?_))
 refine gA ?_
 refine zag (zae (T':=[(1,_),(2,_),(3,_)]) ⟨rfl,rfl,rfl,trivial⟩ ?_)
 refine zac (zbb 11 (fun _=>mixed) (by kernel_rfl) ?_)
 refine ph_y (zab zpz rfl) ?_
 refine ph_y (zah 0 tf3 rfl rfl rfl) ?_
 refine ph_y (zbW tf3 rfl (fun _ hw=>zaQ (Rd.has (Has.rd hb) hw) rfl)) ?_
 refine ph_y (zbw rfl rfl) ?_
 refine ph_y (zaf rfl) ?_
 refine zaH rfl rfl (fun hgd=>by(try rw [hgd]); exact(zbW tf3 rfl (fun _ hw=>zaQ (Rd.has (Has.rd hb) hw) rfl))) ?_
 refine zaH rfl rfl (fun hgd=>by(try rw [hgd]); exact(zab zng rfl)) ?_
 refine zaH rfl rfl (fun hgd=>by(try rw [hgd]); exact(zah 0 tf3 rfl rfl rfl)) ?_
 refine zaH rfl rfl (fun hgd=>by(try rw [hgd]); exact(zbw rfl rfl)) ?_
 refine ph_y (zaX rfl rfl rfl) ?_
 refine ph_y (zad rfl) ?_
 refine zag (zae (T':=[(3,_)]) ⟨rfl,trivial⟩ ?_)
 refine zaw (zay (zaC rfl (zau rfl)) ?_)
 rfl
set_option maxRecDepth 100000 in
set_option maxHeartbeats 8000000 in
theorem zjx (b:Option Addr) (bcap:Nat) (v:Wll) (a:Option Addr) (cap:Nat) (s:Sht) (w:World) (hv:Has w (zaW b 5 zba v.opens)) (hl:Has w (Ints a s.heights)) (hF:WallF v s.height) (hsp:za4 s=true) :
  Calls Tryz.prog 65 #[.agg #[.string v.name,.string v.sheet,.int .i64 v.length,.slice b v.opens.length bcap],.agg #[.string s.name,.int .i64 s.base,.int .i64 s.batter,.int .i64 s.height,.int .i64 s.skin,.slice a s.heights.length cap,.int .i64 s.least,.int .i64 s.lap,.int .i64 s.run,.int .i64 s.every,.int .i64 s.at_,.int .i64 s.footing,.int .i64 s.spread,.int .u8 s.cope,.int .i64 s.tall,.int .i64 s.short,.int .i64 s.thick,.int .i64 s.low,.int .i64 s.high,.int .i64 s.rood]] w (zcU (fun z:Option Addr×Nat=>.tuple #[.int .i64 (zi2 s),.slice z.1 (thrL v s).length z.2]) (fun z=>Row z.1 1 z.2 3 Go.Stn.encI (thrL v s)) w):=by
 have hnm:=zaZ hsp
 have htop:=hnm.height
 have hlen:=hF.len
 have hncr:=zcv hsp
 have hti:=Pln.findI_lt (fun c:Crs=>decide (s.at_≤c.frm)) (zaj s)
 have hbn:=zek hF (zgu ((zaj s).getD (thrI s).toNat default))
 refine zan (vs:=[_,_]) Tryz.func65 rfl rfl (Nat.le_of_ble_eq_true rfl) ?_
 refine zac (zaa (zaG rfl rfl (za3 (vs:=[_,_,_,_]) rfl rfl) fun b2=>?_))
 refine zaG rfl rfl (za3 (vs:=[_,_,_,_,_,_,_,_,_,_,_,_,_,_,_,_,_,_,_,_]) rfl rfl) fun b3=>?_
 refine gA ?_
 refine gA ?_
 refine zag (zae (T':=[(2,_),(3,_),(4,_),(5,_)]) ⟨rfl,rfl,rfl,rfl,trivial⟩ ?_)
 refine zac (zaa (gk_y rfl rfl (zat 0 tf41 rfl rfl (vs:=[_,_,_,_,_,_,_,_,_,_,_,_,_,_,_,_,_,_,_,_]) rfl rfl) ?_))
 refine zaG rfl rfl (zbm en49 rfl (fun w hw=>ze3 a cap s w (Rd.has (Has.rd hl) hw) hnm)) fun p12=>?_
 refine gA ?_
 refine zag (zae (T':=[(2,_),(3,_),(4,_),(5,_),(6,_)]) ⟨rfl,rfl,rfl,rfl,rfl,trivial⟩ ?_)
 refine zac (zaa (gM ?_))
 refine gQ (zbO («as»:=[]) (bs:=[_]) rfl rfl) ?_
 refine gQ (zaJ en97 rfl (fun w hw=>show Calls _ _ _ w (Pure (.int .i64 (thrI s)) w) from zla _ _ (zaj s) (fun c:Crs=>decide (s.at_≤c.frm)) 98 [] [.pointer (some ⟨b3,0,none⟩)] w (zam zax (hw.has (p:=0) rfl)) (by unfold Small; omega) (fun w'=>Has w' (Box b3 [.string s.name,.int .i64 s.base,.int .i64 s.batter,.int .i64 s.height,.int .i64 s.skin,.slice a s.heights.length cap,.int .i64 s.least,.int .i64 s.lap,.int .i64 s.run,.int .i64 s.every,.int .i64 s.at_,.int .i64 s.footing,.int .i64 s.spread,.int .u8 s.cope,.int .i64 s.tall,.int .i64 s.short,.int .i64 s.thick,.int .i64 s.low,.int .i64 s.high,.int .i64 s.rood] 41)) (fun w' hx=>Has.ext (hw.has (p:=1) rfl) hx) en98 (fun z w' hm=>zwn z a cap s b3 w' hm))) ?_
 refine gA ?_
 refine zag (zae (T':=[(2,_),(3,_),(4,_),(5,_),(6,_),(7,_)]) ⟨rfl,rfl,rfl,rfl,rfl,rfl,trivial⟩ ?_)
 refine zac (zac (zbb 7 (fun _=>mixed) (by kernel_rfl) ?_))
 refine ph_y (zab zhc rfl) ?_
 refine ph_y (zah 1 tf3 rfl rfl rfl) ?_
 refine ph_y (zbL rfl rfl) ?_
 refine ph_y (zaf rfl) ?_
 refine zaz rfl rfl (fun hgd=>by(try rw [hgd]); (try have hgd2:=hgd); exact(zaf rfl)) ?_
 refine zaz rfl rfl (fun hgd=>by(try rw [hgd]); (try have hgd2:=hgd); exact(zbw rfl rfl)) ?_
 refine ph_y (zaR rfl rfl rfl) ?_
 refine zag (zae (T':=[(2,_),(3,_),(4,_),(5,_),(6,_),(7,_),(22,_)]) ⟨rfl,rfl,rfl,rfl,rfl,rfl,rfl,trivial⟩ ?_)
 refine zap rfl (fun hc22=>?_) (fun hc22=>?_)
 ·have hno:zi3 s=true:=hc22
  have e1:zi2 s = -1:=if_pos hno
  have e2:thrL v s=[]:=if_pos hno
  refine zbB 3 Go.Stn.encI 1 ?_
  refine zac (zaa (gA ?_))
  refine gA ?_
  refine zag (zae (T':=[(2,_),(3,_),(4,_),(5,_),(6,_),(7,_)]) ⟨rfl,rfl,rfl,rfl,rfl,rfl,trivial⟩ ?_)
  refine zaw (zbd (none,0) 0 (zc2 rfl (zau rfl) (zau rfl)) ?_ (by rw [e2]; rfl))
  rw [e1,e2] <;> rfl
 ·have hno:zi3 s=false:=hc22
  have hno2:=hno
  unfold zi3 at hno2
  rw [Bool.or_eq_false_iff,decide_eq_false_iff_not,decide_eq_false_iff_not] at hno2
  obtain⟨h1,h2⟩:=hno2
  have e1:zi2 s=thrI s:=if_neg (by rw [hno]; exact Bool.false_ne_true)
  have e2:thrL v s=thrX (zbg v ((zaj s).getD (thrI s).toNat default)) v.length s.every (s.every.tdiv 2):=if_neg (by rw [hno]; exact Bool.false_ne_true)
  have hev:=zjQ hsp h1
  have hq:s.every.tdiv 2=s.every / 2:=Int.tdiv_eq_ediv_of_nonneg (by omega)
  have hti2:thrI s < ((zaj s).length:Int):=by unfold thrI at *; omega
  refine zaq (zac (zbb 6 (fun _=>mixed) (by kernel_rfl) ?_))
  refine ph_y (zat 2 tf94 rfl rfl (vs:=[_,_,_,_]) rfl rfl) ?_
  refine ph_y (zaf rfl) ?_
  refine ph_y (zaf rfl) ?_
  refine ph_y (zaE se38 rfl rfl (fun _ hw=>(zam zax (hw.has (p:=0) rfl))) (by omega) (by omega)) ?_
  refine ph_y (zbv (vs:=[_,_]) tf49 rfl (fun _ hw=>(zam zax (hw.has (p:=0) rfl))) (by omega) (by omega) rfl) ?_
  refine zmr (zbm en63 rfl (fun w hw=>zoZ _ _ v ((zaj s).getD (thrI s).toNat default) _ w (Rd.has (Has.rd hv) hw) hF (by omega))) ?_
  intro p28
  refine zae (T':=[(2,_),(3,_),(4,_),(5,_),(7,_),(28,_)]) ⟨rfl,rfl,rfl,rfl,rfl,rfl,trivial⟩ ?_
  refine gA ?_
  refine zag (zae (T':=[(2,_),(3,_),(4,_),(5,_),(7,_),(8,_)]) ⟨rfl,rfl,rfl,rfl,rfl,rfl,trivial⟩ ?_)
  refine zac (zaa (gA ?_))
  refine zag (zae (T':=[(2,_),(3,_),(4,_),(5,_),(7,_),(8,_),(9,_)]) ⟨rfl,rfl,rfl,rfl,rfl,rfl,rfl,trivial⟩ ?_)
  refine zac (zac (zaa (gk_y rfl rfl (zab zhc rfl) ?_)))
  refine gQ (zah 2 tf3 rfl rfl rfl) ?_
  refine gQ (zoI rfl rfl (by omega)) ?_
  refine zaG rfl rfl (zaL tf3 (zs:=[_]) rfl) fun b10=>?_
  refine zaA 0 tf3 rfl rfl (vs:=[_]) rfl rfl rfl rfl rfl ?_
  refine zag (zae (T':=[(2,_),(3,_),(4,_),(5,_),(7,_),(8,_),(9,_),(10,_)]) ⟨rfl,rfl,rfl,rfl,rfl,rfl,rfl,rfl,trivial⟩ ?_)
  refine za2 (R':=Box b10 [.int .i64 (s.every.tdiv 2)] 3) 0 rfl (fun B w hA=>by rw [show IntKind.i64.wrap (Int.tdiv s.every 2)=s.every.tdiv 2 from zbr (by omega) (by omega)] at hA; exact hA) ?_
  refine zas ?_
  refine zbB 3 Go.Stn.encI 1 ?_
  refine zbf (X:=Int×Nat×Option Addr×Nat×List Int) (fun⟨x,bx,rb,rc,N⟩=>[(2,.pointer (some ⟨b2,0,none⟩)),(3,.pointer (some ⟨b3,0,none⟩)),(4,.int .i64 0),(5,.slice none 0 0),(7,.int .i64 (thrI s)),(8,.slice p28.1 (zbg v ((zaj s).getD (thrI s).toNat default)).length p28.2),(9,.slice rb N.length rc),(10,.pointer (some ⟨bx,0,none⟩))]) (fun⟨x,bx,rb,rc,N⟩=>[Row rb 1 rc 3 Go.Stn.encI N,Box bx [.int .i64 x] 3,Row p28.1 2 p28.2 69 zbq (zbg v ((zaj s).getD (thrI s).toNat default)),Row p12.1 2 p12.2 49 zbq (zaj s),Box b3 [.string s.name,.int .i64 s.base,.int .i64 s.batter,.int .i64 s.height,.int .i64 s.skin,.slice a s.heights.length cap,.int .i64 s.least,.int .i64 s.lap,.int .i64 s.run,.int .i64 s.every,.int .i64 s.at_,.int .i64 s.footing,.int .i64 s.spread,.int .u8 s.cope,.int .i64 s.tall,.int .i64 s.short,.int .i64 s.thick,.int .i64 s.low,.int .i64 s.high,.int .i64 s.rood] 41,Box b2 [.string v.name,.string v.sheet,.int .i64 v.length,.slice b v.opens.length bcap] 94]) (fun⟨x,bx,rb,rc,N⟩=>(0≤x∧(N.length:Int)≤x∧x < 200001∧N++thrX (zbg v ((zaj s).getD (thrI s).toNat default)) v.length s.every x=thrL v s)) (fun⟨x,bx,rb,rc,N⟩=>(v.length - x).toNat) (s.every.tdiv 2,b10,none,0,[]) ⟨rfl,rfl,rfl,rfl,rfl,rfl,rfl,rfl,trivial⟩ rfl ?_ ?_
  ·exact⟨by omega,by simp; omega,by omega,by rw [e2]; rfl⟩
  ·rintro ⟨x,bx,rb,rc,N⟩ hI
   obtain⟨g0,g1,g2,g3⟩:=hI
   refine zac (zac (zaa (gk_y rfl rfl (zah 1 tf3 rfl rfl rfl) ?_)))
   refine gQ (zab zgo rfl) ?_
   refine gQ (zah 5 tf3 rfl rfl rfl) ?_
   refine gQ (zbw rfl rfl) ?_
   refine zag (zae (T':=[(2,_),(3,_),(4,_),(5,_),(7,_),(8,_),(9,_),(10,_),(35,_)]) ⟨rfl,rfl,rfl,rfl,rfl,rfl,rfl,rfl,rfl,trivial⟩ ?_)
   refine zap rfl (fun hc35=>?_) (fun hc35=>?_)
   ·have hc35:=of_decide_eq_true hc35
    have hst:=zlH (bs:=(zbg v ((zaj s).getD (thrI s).toNat default))) (e:=s.every) hev.1 hc35
    refine zaq (zac (zas ?_))
    refine zac (zaa (gM ?_))
    refine gQ (zbO («as»:=[]) (bs:=[_]) rfl rfl) ?_
    refine gQ (zaJ en99 rfl (fun w hw=>zhO _ _ (zbg v ((zaj s).getD (thrI s).toNat default)) (fun c:Crs=>decide (c.frm < x)&&decide (x < c.to)) 100 [] [.pointer (some ⟨bx,0,none⟩)] w (zam zax (hw.has (p:=2) rfl)) (by unfold Small zbg; omega) (fun w'=>Has w' (Box bx [.int .i64 x] 3)) (fun w' hx=>Has.ext (hw.has (p:=1) rfl) hx) zwY (fun z w' hm=>zwo z x bx w' hm))) ?_
    refine zag (zae (T':=[(2,_),(3,_),(4,_),(5,_),(7,_),(8,_),(9,_),(10,_),(42,_)]) ⟨rfl,rfl,rfl,rfl,rfl,rfl,rfl,rfl,rfl,trivial⟩ ?_)
    refine zap rfl (fun hc42=>?_) (fun hc42=>?_)
    ·have hst2:=hst.trans (if_pos (show thrT (zbg v ((zaj s).getD (thrI s).toNat default)) x=true from hc42))
     refine zaa (gM ?_)
     refine gQ (zah 1 tf3 rfl rfl rfl) ?_
     refine zaG rfl rfl (zaD rfl (zo0 _) Go.Stn.encI_ok rfl) fun b45=>?_
     refine zb4 (m:=[x]) 1 af35 Go.Stn.encI_ok rfl rfl rfl rfl (fun _ hw=>(zam Go.Stn.encI_ok (hw.has (p:=0) rfl))) (by first | omega | (simp only [List.length_cons,List.length_nil]; omega)) (by first | (unfold maxLen; omega) | (simp only [List.length_cons,List.length_nil,maxLen]; omega)) fun a46 c46=>?_
     refine gA ?_
     refine zag (zae (T':=[(2,_),(3,_),(4,_),(5,_),(7,_),(8,_),(9,_),(10,_)]) ⟨rfl,rfl,rfl,rfl,rfl,rfl,rfl,rfl,trivial⟩ ?_)
     refine zac (zac (zaa (gk_y rfl rfl (zah 2 tf3 rfl rfl rfl) ?_)))
     refine zag (zae (T':=[(2,_),(3,_),(4,_),(5,_),(7,_),(8,_),(9,_),(10,_),(47,_)]) ⟨rfl,rfl,rfl,rfl,rfl,rfl,rfl,rfl,rfl,trivial⟩ ?_)
     refine zaa (zaG rfl rfl (zaL tf3 (zs:=[_]) rfl) fun b10=>?_)
     refine zaA 0 tf3 rfl rfl (vs:=[_]) rfl rfl rfl rfl rfl ?_
     refine zag (zae (T':=[(2,_),(3,_),(4,_),(5,_),(7,_),(8,_),(9,_),(10,_)]) ⟨rfl,rfl,rfl,rfl,rfl,rfl,rfl,rfl,trivial⟩ ?_)
     refine zaa (gk_y rfl rfl (zah 0 tf3 rfl rfl rfl) ?_)
     refine gQ (zab zhc rfl) ?_
     refine gQ (zah 6 tf3 rfl rfl rfl) ?_
     refine gQ (zaY rfl rfl (by omega) (by omega)) ?_
     refine zaA 0 tf3 rfl rfl (vs:=[_]) rfl rfl rfl rfl rfl ?_
     refine zag (zae (T':=[(2,_),(3,_),(4,_),(5,_),(7,_),(8,_),(9,_),(10,_)]) ⟨rfl,rfl,rfl,rfl,rfl,rfl,rfl,rfl,trivial⟩ ?_)
     refine zaK 3 rfl ?_
     refine zao 2 rfl ?_
     refine zaK 2 rfl ?_
     exact za1 (x+s.every,b10,_,_,_) ⟨rfl,rfl,rfl,rfl,rfl,rfl,rfl,rfl,trivial⟩ rfl ⟨by omega,by first | omega | (rw [List.length_append]; simp only [List.length_cons,List.length_nil]; omega),by omega,by rw [←g3,hst2] <;> simp⟩ (by simp only []; omega)
    ·have hst2:=hst.trans (if_neg (by rw [show thrT (zbg v ((zaj s).getD (thrI s).toNat default)) x=false from hc42]; exact Bool.false_ne_true))
     refine zaq (zac (zac (zaa (gk_y rfl rfl (zah 1 tf3 rfl rfl rfl) ?_))))
     refine zag (zae (T':=[(2,_),(3,_),(4,_),(5,_),(7,_),(8,_),(9,_),(10,_),(47,_)]) ⟨rfl,rfl,rfl,rfl,rfl,rfl,rfl,rfl,rfl,trivial⟩ ?_)
     refine zaa (zaG rfl rfl (zaL tf3 (zs:=[_]) rfl) fun b10=>?_)
     refine zaA 0 tf3 rfl rfl (vs:=[_]) rfl rfl rfl rfl rfl ?_
     refine zag (zae (T':=[(2,_),(3,_),(4,_),(5,_),(7,_),(8,_),(9,_),(10,_)]) ⟨rfl,rfl,rfl,rfl,rfl,rfl,rfl,rfl,trivial⟩ ?_)
     refine zaa (gk_y rfl rfl (zah 0 tf3 rfl rfl rfl) ?_)
     refine gQ (zab zhc rfl) ?_
     refine gQ (zah 5 tf3 rfl rfl rfl) ?_
     refine gQ (zaY rfl rfl (by omega) (by omega)) ?_
     refine zaA 0 tf3 rfl rfl (vs:=[_]) rfl rfl rfl rfl rfl ?_
     refine zag (zae (T':=[(2,_),(3,_),(4,_),(5,_),(7,_),(8,_),(9,_),(10,_)]) ⟨rfl,rfl,rfl,rfl,rfl,rfl,rfl,rfl,trivial⟩ ?_)
     refine zaK 2 rfl ?_
     refine zao 1 rfl ?_
     exact za1 (x+s.every,b10,_,_,_) ⟨rfl,rfl,rfl,rfl,rfl,rfl,rfl,rfl,trivial⟩ rfl ⟨by omega,by first | omega | (rw [List.length_append]; simp only [List.length_cons,List.length_nil]; omega),by omega,by rw [←g3,hst2] <;> simp⟩ (by simp only []; omega)
   ·have hc35:=of_decide_eq_false hc35
    have hend:=znW (bs:=(zbg v ((zaj s).getD (thrI s).toNat default))) (e:=s.every) hc35
    refine za8 rfl ?_
    refine zac (zaa (gM ?_))
    refine gM ?_
    refine gA ?_
    refine gA ?_
    refine zag (zae (T':=[(4,_),(5,_)]) ⟨rfl,rfl,trivial⟩ ?_)
    refine zaw (zbd (rb,rc) 0 (zc2 rfl (zau rfl) (zau rfl)) ?_ (by rw [←g3,hend,List.append_nil]; rfl))
    rw [e1,←g3,hend,List.append_nil] <;> rfl
end Go.Proofs.YtdcfcfhmkfkgmaaGreatDoor
namespace Go.Pln
open Go Go.K Go.RowKit Go.Stn
theorem zhU {s:Sht} {bs:List Crs} {i:Int} (h0:0≤i) (h:i < (bs.length:Int)):zcP s (bs.drop i.toNat)=copB s.thick (bs.getD i.toNat default).to (bs.getD i.toNat default).frm s.tall (zdD s)++zcP s (bs.drop (i+1).toNat):=by
 rw [show(i+1).toNat=i.toNat+1 from by omega,List.drop_eq_getElem_cons (by omega),zhS,List.getD_eq_getElem?_getD,List.getElem?_eq_getElem (by omega)]; rfl
theorem zhT {s:Sht} {bs:List Crs} {i:Int} (h:¬ i < (bs.length:Int)):zcP s (bs.drop i.toNat)=[]:=by
 rw [List.drop_of_length_le (by omega)]; rfl
theorem zhV {v:Wll} {s:Sht} (h:WallF v s.height):((zcP s (zbK v s)).length:Int)≤100000:=by
 have h1:=h.len
 have:=zi8 s (by omega) (zdK h (zj4 s.height))
 show((zcP s (zcW (zj4 s.height) v)).length:Int)≤100000
 omega
theorem zfB {v:Wll} {s:Sht} (h:WallF v s.height):((zbi v s).length:Int)≤100000:=by
 unfold zbi
 split
 ·simp
 ·exact zhV h
theorem zi6 {α:Type} {a b t:List α} (h:a++b=t):a.length+b.length=t.length:=by rw [←h,List.length_append]
end Go.Pln
namespace Go.Proofs.YtdcfcfhmkfkgmaaGreatDoor
open Go.K Go.Stn Go.Pln Go.RowKit
theorem af73:AF Tryz.prog 73 87 3 24 [.int IntKind.i64 0,.int IntKind.i64 0,.int IntKind.i64 0]:=⟨Tryz.underlying73,by kernel_rfl,rfl⟩
theorem zwZ:En Tryz.prog 101:=za7 Tryz.func101 (by kernel_rfl) (by kernel_rfl)
theorem zgg (x0:Int) (x1:Int) (x2:Int) (w:World):(Instr.build 87 #[(0,.int .i64 x0),(1,.int .i64 x1),(2,.int .i64 x2)]).run Tryz.prog w=.ok (.agg #[.int .i64 x0,.int .i64 x1,.int .i64 x2]) w:=by kernel_rfl
theorem zvd (x0_0:Int) (x0_1:Int) (x0_2:Int) (w:World):(Instr.buildSlice 73 1 #[(0,.agg #[.int .i64 x0_0,.int .i64 x0_1,.int .i64 x0_2])]).run Tryz.prog w=.ok (.slice (some ⟨w.heap.size,0,none⟩) 1 1) (w.alloc (.cells (([⟨x0_0,x0_1,x0_2⟩]:List (Cpe)).flatMap zcm).toArray 87)):=by kernel_rfl
set_option maxRecDepth 100000 in
set_option maxHeartbeats 16000000 in
theorem zpb (b:Option Addr) (bcap:Nat) (v:Wll) (a:Option Addr) (cap:Nat) (s:Sht) (w:World) (hv:Has w (zaW b 5 zba v.opens)) (hF:WallF v s.height) (hsp:za4 s=true) :
  Calls Tryz.prog 66 #[.agg #[.string v.name,.string v.sheet,.int .i64 v.length,.slice b v.opens.length bcap],.agg #[.string s.name,.int .i64 s.base,.int .i64 s.batter,.int .i64 s.height,.int .i64 s.skin,.slice a s.heights.length cap,.int .i64 s.least,.int .i64 s.lap,.int .i64 s.run,.int .i64 s.every,.int .i64 s.at_,.int .i64 s.footing,.int .i64 s.spread,.int .u8 s.cope,.int .i64 s.tall,.int .i64 s.short,.int .i64 s.thick,.int .i64 s.low,.int .i64 s.high,.int .i64 s.rood]] w (zcU (fun z:Option Addr×Nat=>.slice z.1 (zbi v s).length z.2) (fun z=>Row z.1 3 z.2 87 zcm (zbi v s)) w):=by
 have hnm:=zaZ hsp
 have htop:=hnm.height
 have hlen:=hF.len
 have hcn:=zhV hF
 have hbn:((zbK v s).length:Int)≤100000:=zek hF (zj4 s.height)
 refine zan (vs:=[_,_]) Tryz.func66 rfl rfl (Nat.le_of_ble_eq_true rfl) ?_
 refine zac (zaa (zaG rfl rfl (za3 (vs:=[_,_,_,_]) rfl rfl) fun b2=>?_))
 refine zaG rfl rfl (za3 (vs:=[_,_,_,_,_,_,_,_,_,_,_,_,_,_,_,_,_,_,_,_]) rfl rfl) fun b3=>?_
 refine gA ?_
 refine zag (zae (T':=[(2,_),(3,_),(4,_)]) ⟨rfl,rfl,rfl,trivial⟩ ?_)
 refine zac (zac (zaa (gk_y rfl rfl (zab zjW rfl) ?_)))
 refine gQ (zah 0 tf5 rfl rfl rfl) ?_
 refine gQ (zbL rfl rfl) ?_
 refine zag (zae (T':=[(2,_),(3,_),(4,_),(13,_)]) ⟨rfl,rfl,rfl,rfl,trivial⟩ ?_)
 refine zap rfl (fun hc13=>?_) (fun hc13=>?_)
 ·have hno:s.cope=0:=by simpa using hc13
  have e1:zbi v s=[]:=if_pos hno
  refine zbB 87 zcm 3 ?_
  refine zac (zaa (gA ?_))
  refine zag (zae (T':=[(2,_),(3,_),(4,_)]) ⟨rfl,rfl,rfl,trivial⟩ ?_)
  refine zaw (zbd (none,0) 0 (zaC rfl (zau rfl)) ?_ (by rw [e1]; rfl))
  rw [e1] <;> rfl
 ·have hno:¬ s.cope=0:=by simpa using hc13
  have e1:zbi v s=(zcP s (zbK v s)):=if_neg hno
  obtain⟨hth,htl,hoh⟩:=zlX hsp hno
  refine zaq (zac (zaa (gA ?_)))
  refine zag (zae (T':=[(2,_),(3,_),(4,_),(5,_)]) ⟨rfl,rfl,rfl,rfl,trivial⟩ ?_)
  refine zac (zac (zaa (gk_y rfl rfl (zat 1 tf94 rfl rfl (vs:=[_,_,_,_]) rfl rfl) ?_)))
  refine gQ (zbO («as»:=[]) (bs:=[_]) rfl rfl) ?_
  refine zaG rfl rfl (zbm en95 rfl (fun w hw=>zlM _ _ v s.height (zno s.height) 101 [.pointer (some ⟨b3,0,none⟩)] zwZ (Box b3 [.string s.name,.int .i64 s.base,.int .i64 s.batter,.int .i64 s.height,.int .i64 s.skin,.slice a s.heights.length cap,.int .i64 s.least,.int .i64 s.lap,.int .i64 s.run,.int .i64 s.every,.int .i64 s.at_,.int .i64 s.footing,.int .i64 s.spread,.int .u8 s.cope,.int .i64 s.tall,.int .i64 s.short,.int .i64 s.thick,.int .i64 s.low,.int .i64 s.high,.int .i64 s.rood] 41) w (Rd.has (Has.rd hv) hw) hF (hw.has (p:=0) rfl) (fun o w' hm=>zrj o a cap s b3 w' hm))) fun p16=>?_
  refine gQ (zaV (Tryz.underlying59) rfl) ?_
  refine gM ?_
  refine zag (zae (T':=[(3,_),(4,_),(5,_),(16,_),(17,_),(18,_)]) ⟨rfl,rfl,rfl,rfl,rfl,rfl,trivial⟩ ?_)
  refine za2 (R':=Row p16.1 2 p16.2 69 zbq (zbK v s)) 0 rfl (fun B w hA=>by rw [zjG hF (by omega)] at hA; exact hA) ?_
  refine zae (T':=[(3,_),(4,_),(5,_),(16,.slice p16.1 (zbK v s).length p16.2),(17,.int .i64 ((zbK v s).length:Int)),(18,_)]) ⟨rfl,rfl,rfl,(by rw [←zjG hF (by omega)]; rfl),(by rw [←zjG hF (by omega)]; rfl),rfl,trivial⟩ ?_
  refine zas ?_
  refine zbB 87 zcm 3 ?_
  refine zbf (X:=Int×Option Addr×Nat×List Cpe) (fun⟨i,ra,rc,M⟩=>[(3,.pointer (some ⟨b3,0,none⟩)),(4,.slice none 0 0),(5,.slice ra M.length rc),(16,.slice p16.1 (zbK v s).length p16.2),(17,.int .i64 ((zbK v s).length:Int)),(18,.int .i64 i)]) (fun⟨i,ra,rc,M⟩=>[Row ra 3 rc 87 zcm M,Row p16.1 2 p16.2 69 zbq (zbK v s),Box b3 [.string s.name,.int .i64 s.base,.int .i64 s.batter,.int .i64 s.height,.int .i64 s.skin,.slice a s.heights.length cap,.int .i64 s.least,.int .i64 s.lap,.int .i64 s.run,.int .i64 s.every,.int .i64 s.at_,.int .i64 s.footing,.int .i64 s.spread,.int .u8 s.cope,.int .i64 s.tall,.int .i64 s.short,.int .i64 s.thick,.int .i64 s.low,.int .i64 s.high,.int .i64 s.rood] 41,Box b2 [.string v.name,.string v.sheet,.int .i64 v.length,.slice b v.opens.length bcap] 94]) (fun⟨i,ra,rc,M⟩=>(0≤i∧i≤(zbK v s).length∧M++zcP s ((zbK v s).drop i.toNat)=(zcP s (zbK v s)))) (fun⟨i,ra,rc,M⟩=>((zbK v s).length - i).toNat) (0,none,0,[]) ⟨rfl,rfl,rfl,rfl,rfl,rfl,trivial⟩ rfl ?_ ?_
  ·exact⟨by omega,by omega,rfl⟩
  ·rintro ⟨i,ra,rc,M⟩ hI
   obtain⟨g0,g1,g2⟩:=hI
   refine zac (zaa (gk_y rfl rfl (zbw rfl rfl) ?_))
   refine zag (zae (T':=[(3,_),(4,_),(5,_),(16,_),(17,_),(18,_),(19,_)]) ⟨rfl,rfl,rfl,rfl,rfl,rfl,rfl,trivial⟩ ?_)
   refine zac (zap rfl (fun hc19=>?_) (fun hc19=>?_))
   ·have hc19:=of_decide_eq_true hc19
    obtain⟨q1,q2,q3⟩:0≤((zbK v s).getD i.toNat default).frm∧((zbK v s).getD i.toNat default).frm < ((zbK v s).getD i.toNat default).to∧((zbK v s).getD i.toNat default).to≤v.length:=zmS hF g0 hc19
    have hdr:=zhU (s:=s) g0 hc19
    refine zaq (zac (zas ?_))
    refine zac (zaa (gk_y rfl rfl (zaE se59 rfl rfl (fun _ hw=>(zam zax (hw.has (p:=1) rfl))) (by omega) (by omega)) ?_))
    refine gQ (zbv (vs:=[_,_]) tf69 rfl (fun _ hw=>(zam zax (hw.has (p:=1) rfl))) (by omega) (by omega) rfl) ?_
    refine zaG rfl rfl (zaL tf69 (zs:=[_,_]) rfl) fun b7=>?_
    refine zaA 0 tf69 rfl rfl (vs:=[_,_]) rfl rfl rfl rfl rfl ?_
    refine zag (zae (T':=[(3,_),(4,_),(5,_),(7,_),(16,_),(17,_),(18,_)]) ⟨rfl,rfl,rfl,rfl,rfl,rfl,rfl,trivial⟩ ?_)
    refine zac (zbb 6 (fun _=>mixed) (by kernel_rfl) ?_)
    refine ph_y (zab zfc rfl) ?_
    refine ph_y (zah 3 tf3 rfl rfl rfl) ?_
    refine ph_y (zab zfc rfl) ?_
    refine ph_y (zah 3 tf3 rfl rfl rfl) ?_
    refine ph_y (zad rfl) ?_
    refine ph_y (zad rfl) ?_
    refine zag (zae (T':=[(3,_),(4,_),(5,_),(7,_),(8,_),(9,_),(16,_),(17,_),(18,_)]) ⟨rfl,rfl,rfl,rfl,rfl,rfl,rfl,rfl,rfl,trivial⟩ ?_)
    refine zih (X:=Unit) (fun _=>[(3,.pointer (some ⟨b3,0,none⟩)),(4,.slice none 0 0),(5,.slice ra M.length rc),(7,.pointer (some ⟨b7,0,none⟩)),(8,.int .i64 s.tall),(9,.int .i64 (zdD s)),(16,.slice p16.1 (zbK v s).length p16.2),(17,.int .i64 ((zbK v s).length:Int)),(18,.int .i64 i)]) (fun _=>[Box b7 [.int .i64 ((zbK v s).getD (i).toNat default).frm,.int .i64 ((zbK v s).getD (i).toNat default).to] 69,Row ra 3 rc 87 zcm M,Row p16.1 2 p16.2 69 zbq (zbK v s),Box b3 [.string s.name,.int .i64 s.base,.int .i64 s.batter,.int .i64 s.height,.int .i64 s.skin,.slice a s.heights.length cap,.int .i64 s.least,.int .i64 s.lap,.int .i64 s.run,.int .i64 s.every,.int .i64 s.at_,.int .i64 s.footing,.int .i64 s.spread,.int .u8 s.cope,.int .i64 s.tall,.int .i64 s.short,.int .i64 s.thick,.int .i64 s.low,.int .i64 s.high,.int .i64 s.rood] 41,Box b2 [.string v.name,.string v.sheet,.int .i64 v.length,.slice b v.opens.length bcap] 94]) (fun _=>True) ?_ ?_
    ·
     refine zac (zaa (gk_y rfl rfl (zab zjW rfl) ?_))
     refine gQ (zah 3 tf5 rfl rfl rfl) ?_
     refine gQ (zbL rfl rfl) ?_
     refine zag (zae (T':=[(3,_),(4,_),(5,_),(7,_),(8,_),(9,_),(16,_),(17,_),(18,_),(28,_)]) ⟨rfl,rfl,rfl,rfl,rfl,rfl,rfl,rfl,rfl,rfl,trivial⟩ ?_)
     refine zap rfl (fun hc28=>?_) (fun hc28=>?_)
     ·have ho3:zdD s=s.short:=if_pos (by simpa using hc28)
      refine zaa (gk_y rfl rfl (zab zf1 rfl) ?_)
      refine gQ (zah 3 tf3 rfl rfl rfl) ?_
      refine gA ?_
      refine zag (zae (T':=[(3,_),(4,_),(5,_),(7,_),(8,_),(9,_),(16,_),(17,_),(18,_)]) ⟨rfl,rfl,rfl,rfl,rfl,rfl,rfl,rfl,rfl,trivial⟩ ?_)
      refine zae (T':=[(3,_),(4,_),(5,_),(7,_),(8,_),(9,.int .i64 (zdD s)),(16,_),(17,_),(18,_)]) ⟨rfl,rfl,rfl,rfl,rfl,(by rw [ho3]; rfl),rfl,rfl,rfl,trivial⟩ ?_
      exact zb9 () ⟨rfl,rfl,rfl,rfl,rfl,(by(first | rfl | (rw [ho3]; rfl))),rfl,rfl,rfl,trivial⟩ rfl trivial
     ·have ho3:zdD s=s.tall:=if_neg (by simpa using hc28)
      refine zaq ?_
      exact zb9 () ⟨rfl,rfl,rfl,rfl,rfl,(by(first | rfl | (rw [ho3]; rfl))),rfl,rfl,rfl,trivial⟩ rfl trivial
    ·rintro _ hJ
     refine zac (zaa (gk_y rfl rfl (zab zpz rfl) ?_))
     refine gQ (zah 0 tf3 rfl rfl rfl) ?_
     refine gA ?_
     refine zag (zae (T':=[(3,_),(4,_),(5,_),(7,_),(8,_),(9,_),(10,_),(16,_),(17,_),(18,_)]) ⟨rfl,rfl,rfl,rfl,rfl,rfl,rfl,rfl,rfl,rfl,trivial⟩ ?_)
     refine zas ?_
     refine zbf (X:=Int×Int×Int×Option Addr×Nat×List Cpe) (fun⟨x,hh,oo,ra2,rc2,M2⟩=>[(3,.pointer (some ⟨b3,0,none⟩)),(4,.slice none 0 0),(5,.slice ra2 M2.length rc2),(7,.pointer (some ⟨b7,0,none⟩)),(8,.int .i64 hh),(9,.int .i64 oo),(10,.int .i64 x),(16,.slice p16.1 (zbK v s).length p16.2),(17,.int .i64 ((zbK v s).length:Int)),(18,.int .i64 i)]) (fun⟨x,hh,oo,ra2,rc2,M2⟩=>[Box b7 [.int .i64 ((zbK v s).getD (i).toNat default).frm,.int .i64 ((zbK v s).getD (i).toNat default).to] 69,Row ra2 3 rc2 87 zcm M2,Row p16.1 2 p16.2 69 zbq (zbK v s),Box b3 [.string s.name,.int .i64 s.base,.int .i64 s.batter,.int .i64 s.height,.int .i64 s.skin,.slice a s.heights.length cap,.int .i64 s.least,.int .i64 s.lap,.int .i64 s.run,.int .i64 s.every,.int .i64 s.at_,.int .i64 s.footing,.int .i64 s.spread,.int .u8 s.cope,.int .i64 s.tall,.int .i64 s.short,.int .i64 s.thick,.int .i64 s.low,.int .i64 s.high,.int .i64 s.rood] 41,Box b2 [.string v.name,.string v.sheet,.int .i64 v.length,.slice b v.opens.length bcap] 94]) (fun⟨x,hh,oo,ra2,rc2,M2⟩=>(0≤x∧x≤200000∧M2++(copB s.thick ((zbK v s).getD i.toNat default).to x hh oo++zcP s ((zbK v s).drop (i+1).toNat))=(zcP s (zbK v s)))) (fun⟨x,hh,oo,ra2,rc2,M2⟩=>(((zbK v s).getD i.toNat default).to - x).toNat) (((zbK v s).getD i.toNat default).frm,s.tall,zdD s,ra,rc,M) ⟨rfl,rfl,rfl,rfl,rfl,rfl,rfl,rfl,rfl,rfl,trivial⟩ rfl ?_ ?_
     ·exact⟨by omega,by omega,by rw [←hdr]; exact g2⟩
     ·rintro ⟨x,hh,oo,ra2,rc2,M2⟩ hI
      obtain⟨k0,k1,k3⟩:=hI
      refine zac (zac (zaa (gM ?_)))
      refine gQ (zab zng rfl) ?_
      refine gQ (zah 0 tf3 rfl rfl rfl) ?_
      refine gQ (zbw rfl rfl) ?_
      refine zag (zae (T':=[(3,_),(4,_),(5,_),(7,_),(8,_),(9,_),(10,_),(16,_),(17,_),(18,_),(36,_)]) ⟨rfl,rfl,rfl,rfl,rfl,rfl,rfl,rfl,rfl,rfl,rfl,trivial⟩ ?_)
      refine zap rfl (fun hc36=>?_) (fun hc36=>?_)
      ·have hc36:=of_decide_eq_true hc36
       have hst:=zkK (t:=s.thick) (to:=((zbK v s).getD i.toNat default).to) (x:=x) (h:=hh) (o:=oo) (by omega) hc36
       have hal:=zi6 k3
       refine zaq (zac (zas ?_))
       refine zac (zaa (gM ?_))
       refine gM ?_
       refine gQ (zab zfd rfl) ?_
       refine gQ (zah 3 tf3 rfl rfl rfl) ?_
       refine gQ (zab zng rfl) ?_
       refine gQ (zah 0 tf3 rfl rfl rfl) ?_
       refine gM ?_
       refine gQ (zfV rfl rfl (by omega) (by omega)) ?_
       refine gQ (zsy rfl rfl) ?_
       refine gM ?_
       refine gQ (zaI rfl (zgg _ _ _)) ?_
       refine zaG rfl rfl (zaD rfl (zvd _ _ _) zbc rfl) fun b52=>?_
       refine zb4 (m:=[(⟨x,(min s.thick (((zbK v s).getD (i).toNat default).to - x)),hh⟩:Cpe)]) 2 af73 zbc rfl rfl rfl rfl (fun _ hw=>(zam zbc (hw.has (p:=0) rfl))) (by first | omega | (simp only [List.length_cons,List.length_nil]; omega)) (by first | (unfold maxLen; omega) | (simp only [List.length_cons,List.length_nil,maxLen]; omega)) fun a53 c53=>?_
       refine gA ?_
       refine zag (zae (T':=[(3,_),(4,_),(5,_),(7,_),(8,_),(9,_),(10,_),(16,_),(17,_),(18,_)]) ⟨rfl,rfl,rfl,rfl,rfl,rfl,rfl,rfl,rfl,rfl,trivial⟩ ?_)
       refine zaa (gM ?_)
       refine gM ?_
       refine gA ?_
       refine gA ?_
       refine zag (zae (T':=[(3,_),(4,_),(5,_),(7,_),(8,_),(9,_),(10,_),(16,_),(17,_),(18,_)]) ⟨rfl,rfl,rfl,rfl,rfl,rfl,rfl,rfl,rfl,rfl,trivial⟩ ?_)
       refine zaa (gM ?_)
       refine gQ (zab zfd rfl) ?_
       refine gQ (zah 4 tf3 rfl rfl rfl) ?_
       refine gQ (zaY rfl rfl (by omega) (by omega)) ?_
       refine gA ?_
       refine zag (zae (T':=[(3,_),(4,_),(5,_),(7,_),(8,_),(9,_),(10,_),(16,_),(17,_),(18,_)]) ⟨rfl,rfl,rfl,rfl,rfl,rfl,rfl,rfl,rfl,rfl,trivial⟩ ?_)
       refine zaK 0 rfl ?_
       exact za1 (x+s.thick,oo,hh,_,_,_) ⟨rfl,rfl,rfl,rfl,rfl,rfl,rfl,rfl,rfl,rfl,trivial⟩ rfl ⟨by omega,by omega,by rw [←k3,hst] <;> simp⟩ (by simp only []; omega)
      ·have hc36:=of_decide_eq_false hc36
       have hen2:=zm0 (t:=s.thick) (h:=hh) (o:=oo) hc36
       refine za8 rfl ?_
       refine zaa (gk_y rfl rfl (zaY rfl rfl (by omega) (by omega)) ?_)
       refine gM ?_
       refine zag (zae (T':=[(3,_),(4,_),(5,_),(16,_),(17,_),(18,_)]) ⟨rfl,rfl,rfl,rfl,rfl,rfl,trivial⟩ ?_)
       refine zaK 0 rfl ?_
       exact za1 (i+1,_,_,_) ⟨rfl,rfl,rfl,rfl,rfl,rfl,trivial⟩ rfl ⟨by omega,by omega,by rw [←k3,hen2]; rfl⟩ (by simp only []; omega)
   ·have hc19:=of_decide_eq_false hc19
    have hdn:=zhT (s:=s) hc19
    refine za8 rfl ?_
    refine zac (zaa (gM ?_))
    refine gA ?_
    refine zag (zae (T':=[(4,_)]) ⟨rfl,trivial⟩ ?_)
    refine zaw (zbd (ra,rc) 0 (zaC rfl (zau rfl)) ?_ (by rw [e1,←g2,hdn,List.append_nil]; rfl))
    rw [e1,←g2,hdn,List.append_nil] <;> rfl
end Go.Proofs.YtdcfcfhmkfkgmaaGreatDoor
namespace Go.Pln
open Go Go.K Go.RowKit Go.Stn
def Chn (hi:Int):Int→List Crs→Prop
 | lo,[]=>lo=hi
 | lo,c :: r=>c.frm=lo∧lo < c.to∧Chn hi c.to r
theorem zhw {hi mid:Int} (hm:mid < hi):∀ {lo:Int} {l:List Crs},Chn mid lo l→Chn hi lo (l++[⟨mid,hi⟩])
 | _,[],h=>by
  subst h
  exact⟨rfl,hm,rfl⟩
 | _,c :: r,⟨h1,h2,h3⟩=>⟨h1,h2,zhw hm h3⟩
theorem zsF {hi:Int}:∀ {lo:Int} {l:List Crs},Chn hi lo l→lo≤hi
 | _,[],h=>Int.le_of_eq h
 | _,c :: r,⟨_,h2,h3⟩=>by have:=zsF h3; omega
theorem zlV {hi:Int}:∀ {lo:Int} {l:List Crs},Chn hi lo l→∀ c∈l,lo≤c.frm∧c.frm < c.to∧c.to≤hi
 | _,[],_,_,h=>by cases h
 | _,c :: r,⟨h1,h2,h3⟩,d,hd=>by
  rcases List.mem_cons.1 hd with rfl | hd
  ·have:=zsF h3; exact⟨by omega,by omega,this⟩
  ·have:=zlV h3 d hd
   omega
theorem zjM {s:Sht} (hn:Nums s):∀ n:Nat,Chn (zAt s n) 0 (crsN s n)
 | 0=>rfl
 | n+1=>by
  rw [ze7]
  refine zhw ?_ (zjM hn n)
  have:=(zeg hn n).1
  rw [zAt]; omega
theorem zre {s:Sht} (hn:Nums s):zc5 s (cnt s)=false∧∀ j,j < cnt s→zc5 s j=true:=by
 have hex:∃ n,zc5 s n=false:=⟨(s.height+1).toNat,by
  have h1:=zlP (s:=s) (fun i=>(zeg hn i).1) (s.height+1).toNat
  have h2:=(zeg hn (s.height+1).toNat).1
  have h3:=hn.height
  unfold zc5
  rw [decide_eq_false_iff_not]; omega⟩
 have least:∀ m,(∃ n,n < m∧zc5 s n=false)→∃ n,zc5 s n=false∧∀ j,j < n→zc5 s j=true:=by
  intro m
  induction m with
  | zero=>rintro ⟨n,h,_⟩; omega
  | succ m ih=>
   rintro ⟨n,h1,h2⟩
   by_cases h:∃ n,n < m∧zc5 s n=false
   ·exact ih h
   ·refine⟨n,h2,fun j hj=>?_⟩
    cases e:zc5 s j with
    | true=>rfl
    | false=>exact absurd ⟨j,by omega,e⟩ h
 obtain⟨n,hn1⟩:=hex
 obtain⟨m,h1,h2⟩:=least (n+1) ⟨n,Nat.lt_succ_self _,hn1⟩
 rw [zsH (fun i=>(zeg hn i).1) h1 h2]
 exact⟨h1,h2⟩
theorem zhW {s:Sht} (hn:Nums s):Chn s.height 0 (zaj s):=by
 obtain⟨h1,h2⟩:=zre hn
 have hh:=hn.height
 have hz:=zn7 (s:=s) (by omega) h2
 have hc:=zjM hn (cnt s)
 by_cases e1:s.height - zAt s (cnt s)=0
 ·rw [ze6 rfl e1,show s.height=zAt s (cnt s) from by omega]; exact hc
 ·by_cases e2:s.least≤s.height - zAt s (cnt s)∨cnt s=0
  ·rw [ze5 rfl e1 e2]
   exact zhw (by omega) hc
  ·rw [ze4 rfl e1 e2]
   obtain⟨m,hm⟩:∃ m,cnt s=m+1:=⟨cnt s - 1,by omega⟩
   rw [hm,Nat.add_sub_cancel,ze7]
   have e3:((crsN s m++[(⟨zAt s m,zAt s (m+1)⟩:Crs)]).getD m default).frm=zAt s m:=by
    rw [List.getD_eq_getElem?_getD,List.getElem?_append_right (by rw [zeC]; exact Nat.le_refl _),zeC,Nat.sub_self]; rfl
   have e4:(crsN s m++[(⟨zAt s m,zAt s (m+1)⟩:Crs)]).set m ⟨zAt s m,s.height⟩=crsN s m++[⟨zAt s m,s.height⟩]:=by
    rw [List.set_append_right _ _ (by rw [zeC]; exact Nat.le_refl _),zeC,Nat.sub_self]; rfl
   rw [e3,e4]
   refine zhw ?_ (zjM hn m)
   have h3:=h2 m (by omega)
   have h4:=(zeg hn m).1
   unfold zc5 at h3
   rw [decide_eq_true_eq] at h3
   omega
theorem zpc {s:Sht} (hn:Nums s) {i:Int} (h0:0≤i) (h1:i < ((zaj s).length:Int)):0≤((zaj s).getD i.toNat default).frm∧((zaj s).getD i.toNat default).frm < ((zaj s).getD i.toNat default).to∧((zaj s).getD i.toNat default).to≤s.height:=
 zlV (zhW hn) _ (za0 (l:=zaj s) (i:=i.toNat) (by omega))
theorem zgO {s:Sht} (h:za4 s=true) {z:Int} (h0:0≤z) (h1:z≤s.height):1≤zb5 s z∧zb5 s z≤3000:=by
 have hn:=zaZ h
 have hb:=hn.batter; have hbs:=hn.base; have hh:=hn.height
 have hw:=zlC h
 unfold zb5 at *
 have e1:0≤s.batter*z:=Int.mul_nonneg (by omega) h0
 have e2:s.batter*z≤s.batter*s.height:=Int.mul_le_mul_of_nonneg_left h1 (by omega)
 rw [Int.tdiv_eq_ediv_of_nonneg (by omega)] at hw
 rw [Int.tdiv_eq_ediv_of_nonneg e1]
 omega
theorem zeM {f:Crs→Int}:∀ {l:List Crs},(∀ c∈l,0≤f c)→0≤sumB f l
 | [],_=>Int.le_refl _
 | c :: r,h=>by
  rw [zft]
  have:=h c (List.mem_cons_self ..)
  have:=zeM (f:=f) (l:=r) (fun d hd=>h d (List.mem_cons_of_mem _ hd))
  omega
theorem zmE {f:Crs→Int} {k:Int}:∀ {l:List Crs},(∀ c∈l,f c≤k)→sumB f l≤l.length*k
 | [],_=>by simp [sumB]
 | c :: r,h=>by
  rw [zft,List.length_cons]
  have h1:=h c (List.mem_cons_self ..)
  have h2:=zmE (f:=f) (k:=k) (l:=r) (fun d hd=>h d (List.mem_cons_of_mem _ hd))
  have e:((r.length+1:Nat):Int)*k=r.length*k+k:=by rw [Int.natCast_add,Int.add_mul]; simp
  omega
theorem zdt {f:Crs→Int} {l:List Crs} {i:Int} (h0:0≤i) (h:i < (l.length:Int)):sumB f (l.drop i.toNat)=f (l.getD i.toNat default)+sumB f (l.drop (i+1).toNat):=by
 rw [show(i+1).toNat=i.toNat+1 from by omega,List.drop_eq_getElem_cons (by omega),zft,List.getD_eq_getElem?_getD,List.getElem?_eq_getElem (by omega)]; rfl
theorem zds {f:Crs→Int} {l:List Crs} {i:Int} (h:¬ i < (l.length:Int)):sumB f (l.drop i.toNat)=0:=by
 rw [List.drop_of_length_le (by omega)]; rfl
theorem zku {f:Crs→Int} (k:Int):∀ l:List Crs,sumB (fun c=>f c*k) l=sumB f l*k
 | []=>by simp [sumB]
 | c :: r=>by rw [zft,zft,zku k r,Int.add_mul]
theorem zrF (l:List Crs):lenL l=sumB (fun c=>c.to - c.frm) l:=rfl
theorem zq5 (c:Crs) (k:Int) (l:List Crs):sumB (fun b=>zcw c b*k) l=lenL l*(c.to - c.frm)*k:=by
 rw [zku,zrF]
 unfold zcw
 rw [zku]
theorem zc7 {a b x y:Int} (h0:0≤a) (h1:a≤x) (h2:0≤b) (h3:b≤y):0≤a*b∧a*b≤x*y:=by
 refine⟨Int.mul_nonneg h0 h2,Int.le_trans (Int.mul_le_mul_of_nonneg_right h1 h2) (Int.mul_le_mul_of_nonneg_left h3 (by omega))⟩
theorem zmR {v:Wll} {s:Sht} (hF:WallF v s.height) {c:Crs} (hc:0≤c.frm∧c.frm < c.to∧c.to≤3000) {k:Int} (hk:0≤k∧k≤3000):0≤sumB (fun b=>zcw c b*k) (zbg v c)∧sumB (fun b=>zcw c b*k) (zbg v c)≤900000000000:=by
 have hl:=hF.len
 have h1:=znP (by omega) (zdK hF (zgu c))
 rw [zq5]
 obtain⟨a1,a2⟩:=zc7 (x:=100000) (y:=3000) (b:=c.to - c.frm) h1.1 (by omega) (by omega) (by omega)
 exact zc7 (x:=300000000) (y:=3000) a1 a2 hk.1 hk.2
theorem zd5 {s:Sht} (h:za4 s=true) {c:Crs} (hc:0≤c.frm∧c.frm < c.to∧c.to≤s.height):0≤zcY s c∧zcY s c≤3000:=by
 have hw:=zgO h hc.1 (by omega)
 have hs:=(zaZ h).skin
 unfold zcY; omega
theorem zdV {s:Sht} (h:za4 s=true) {c:Crs} (hc:0≤c.frm∧c.frm < c.to∧c.to≤s.height):0≤zct s c∧zct s c≤3000:=by
 have hw:=zgO h hc.1 (by omega)
 have hs:=(zaZ h).skin
 unfold zct; omega
end Go.Pln
namespace Go.Pln
open Go Go.K Go.RowKit Go.Stn
theorem zhy {α:Type} {l:List α} {n:Nat} {x:α} (h:x∈l.drop n):x∈l:=List.mem_of_mem_drop h
theorem zjD {v:Wll} {s:Sht} (hF:WallF v s.height) {c:Crs} (hc:0≤c.frm∧c.frm < c.to∧c.to≤3000) {b:Crs} (hb:b∈zbg v c):0≤zcw c b∧zcw c b≤300000000:=by
 obtain⟨h1,h2,h3,_⟩:=zeK (zdK hF (zgu c)) b hb
 have hl:=hF.len
 unfold zcw
 exact zc7 (x:=100000) (y:=3000) (by omega) (by omega) (by omega) (by omega)
theorem zhv {v:Wll} {s:Sht} (hF:WallF v s.height) {c:Crs} (hc:0≤c.frm∧c.frm < c.to∧c.to≤3000) {k:Int} (hk:0≤k) (n:Nat):0≤sumB (fun b=>zcw c b*k) ((zbg v c).drop n):=
 zeM fun _b hb=>Int.mul_nonneg (zjD hF hc (zhy hb)).1 hk
theorem zpd {s:Sht} (hn:Nums s) {c:Crs} (h:c∈zaj s):0≤c.frm∧c.frm < c.to∧c.to≤s.height:=zlV (zhW hn) c h
theorem zm6 {v:Wll} {s:Sht} (hF:WallF v s.height) (hs:za4 s=true) {c:Crs} (h:c∈zaj s):0≤zh0 v s c∧zh0 v s c≤900000000000:=by
 have hn:=zaZ hs
 have hh:=hn.height
 have hc:=zpd hn h
 exact zmR hF (by omega) (zd5 hs hc)
theorem zk2 {v:Wll} {s:Sht} (hF:WallF v s.height) (hs:za4 s=true) {c:Crs} (h:c∈zaj s):0≤zfi v s c∧zfi v s c≤900000000000:=by
 have hn:=zaZ hs
 have hh:=hn.height
 have hc:=zpd hn h
 exact zmR hF (by omega) (zdV hs hc)
theorem zkT {v:Wll} {s:Sht} (hF:WallF v s.height) (hs:za4 s=true) (n:Nat):0≤sumB (zh0 v s) ((zaj s).drop n):=zeM fun _c hc=>(zm6 hF hs (zhy hc)).1
theorem zjl {v:Wll} {s:Sht} (hF:WallF v s.height) (hs:za4 s=true) (n:Nat):0≤sumB (zfi v s) ((zaj s).drop n):=zeM fun _c hc=>(zk2 hF hs (zhy hc)).1
theorem zm7 {v:Wll} {s:Sht} (hF:WallF v s.height) (hs:za4 s=true):zcJ v s≤90000000000000:=by
 have h1:=zmE (f:=zh0 v s) (k:=900000000000) (l:=zaj s) fun c hc=>(zm6 hF hs hc).2
 have h2:=zcv hs
 have h3:((zaj s).length:Int)*900000000000≤100*900000000000:=Int.mul_le_mul_of_nonneg_right (by omega) (by decide)
 unfold zcJ
 omega
theorem zk3 {v:Wll} {s:Sht} (hF:WallF v s.height) (hs:za4 s=true):zca v s≤90000000000000:=by
 have h1:=zmE (f:=zfi v s) (k:=900000000000) (l:=zaj s) fun c hc=>(zk2 hF hs hc).2
 have h2:=zcv hs
 have h3:((zaj s).length:Int)*900000000000≤100*900000000000:=Int.mul_le_mul_of_nonneg_right (by omega) (by decide)
 unfold zca
 omega
theorem zoT {c b:Crs} (hb:0≤b.frm∧b.frm < b.to∧b.to≤100000) (hc:0≤c.frm∧c.frm < c.to∧c.to≤3000):W (W (b.to - b.frm)*W (c.to - c.frm))=zcw c b:=by
 rw [zbr (n:=b.to - b.frm) (by omega) (by omega),zbr (n:=c.to - c.frm) (by omega) (by omega)]
 have:=zc7 (a:=b.to - b.frm) (b:=c.to - c.frm) (x:=100000) (y:=3000) (by omega) (by omega) (by omega) (by omega)
 exact zbr (by omega) (by omega)
theorem ztL {s:Sht} (hs:za4 s=true) {c:Crs} (hc:0≤c.frm∧c.frm < c.to∧c.to≤s.height) {f a:Int} (ha:0≤a∧a≤300000000) (h0:0≤f) (h1:f+a*zcY s c≤90000000000000) :
  W (f+W (a*min (W (2*s.skin)) (zb5 s c.frm)))=f+a*zcY s c:=by
 have hk:=(zaZ hs).skin
 have hw:=zd5 hs hc
 rw [zbr (n:=2*s.skin) (by omega) (by omega),show min (2*s.skin) (zb5 s c.frm)=zcY s c from rfl]
 have:=zc7 (x:=300000000) (y:=3000) ha.1 ha.2 hw.1 hw.2
 rw [zbr (n:=a*zcY s c) (by omega) (by omega)]
 exact zbr (by omega) (by omega)
theorem zrw {s:Sht} (hs:za4 s=true) {c:Crs} (hc:0≤c.frm∧c.frm < c.to∧c.to≤s.height) {f a:Int} (ha:0≤a∧a≤300000000) (h0:0≤f) (h1:f+a*zct s c≤90000000000000) :
  W (f+W (a*max (W (zb5 s c.frm - W (2*s.skin))) 0))=f+a*zct s c:=by
 have hk:=(zaZ hs).skin
 have hw:=zdV hs hc
 have hi:=zgO hs hc.1 (by omega)
 rw [zbr (n:=2*s.skin) (by omega) (by omega),zbr (n:=zb5 s c.frm - 2*s.skin) (by omega) (by omega),show max (zb5 s c.frm - 2*s.skin) 0=zct s c from rfl]
 have:=zc7 (x:=300000000) (y:=3000) ha.1 ha.2 hw.1 hw.2
 rw [zbr (n:=a*zct s c) (by omega) (by omega)]
 exact zbr (by omega) (by omega)
theorem zpH {v:Wll} {s:Sht} (hF:WallF v s.height) (hs:za4 s=true):W (W (v.length*s.footing)*W (s.base+W (2*s.spread)))=zdl v s:=by
 have hn:=zaZ hs
 have hl:=hF.len; have hb:=hn.base; have hf:=hn.foot
 obtain⟨a1,a2⟩:=zc7 (a:=v.length) (b:=s.footing) (x:=100000) (y:=1000) (by omega) (by omega) (by omega) (by omega)
 obtain⟨b1,b2⟩:=zc7 (a:=v.length*s.footing) (b:=s.base+2*s.spread) (x:=100000000) (y:=5000) a1 a2 (by omega) (by omega)
 rw [zbr (n:=v.length*s.footing) (by omega) (by omega),zbr (n:=2*s.spread) (by omega) (by omega),zbr (n:=s.base+2*s.spread) (by omega) (by omega)]
 exact zbr (by omega) (by omega)
theorem zuF {v:Wll} {s:Sht} (hF:WallF v s.height) (hs:za4 s=true):0≤zlt v s∧zlt v s≤10000000:=by
 have hl:=hF.len; have hr:=(zaZ hs).rood
 unfold zlt
 rw [Int.tdiv_eq_ediv_of_nonneg (by omega)]
 refine⟨Int.ediv_nonneg (by omega) (by omega),?_⟩
 exact Int.le_trans (Int.ediv_le_self _ (by omega)) (by omega)
theorem zqD {v:Wll} {s:Sht} (hF:WallF v s.height) (hs:za4 s=true):W (Int.tdiv (100*v.length) s.rood)=zlt v s:=by
 have:=zuF hF hs
 exact zbr (n:=zlt v s) (by omega) (by omega)
theorem zm2 {t to:Int} (ht:1≤t) {k:Cpe}:∀ {f:Nat} {x h o:Int},k∈copF t to f x h o→(1≤k.width∧k.width≤t)∧(k.high=h∨k.high=o)
 | 0,_,_,_,hk=>by cases hk
 | f+1,x,h,o,hk=>by
  rw [copF] at hk
  split at hk
  ·rcases List.mem_cons.1 hk with rfl | hk
   ·exact⟨⟨by simp only []; omega,by simp only []; omega⟩,.inl rfl⟩
   ·obtain⟨h1,h2⟩:=zm2 ht hk
    exact⟨h1,h2.symm⟩
  ·cases hk
theorem zri {v:Wll} {s:Sht} (hs:za4 s=true) {k:Cpe} (h:k∈zbi v s):(1≤k.width∧k.width≤1000)∧(1≤k.high∧k.high≤1000):=by
 unfold zbi at h
 split at h
 ·cases h
 ·rename_i hc
  obtain⟨h1,h2,h3⟩:=zlX hs hc
  obtain⟨b,_,hb⟩:=List.mem_flatMap.1 h
  obtain⟨h4,h5⟩:=zm2 h1.1 hb
  refine⟨by omega,?_⟩
  rcases h5 with h5 | h5 <;> omega
def topS (s:Sht) (l:List Cpe):Int:=(l.map (topF s)).sum
theorem zlJ {s:Sht} {l:List Cpe} {i:Int} (h0:0≤i) (h:i < (l.length:Int)):topS s (l.drop i.toNat)=topF s (l.getD i.toNat default)+topS s (l.drop (i+1).toNat):=by
 rw [show(i+1).toNat=i.toNat+1 from by omega,List.drop_eq_getElem_cons (by omega),List.getD_eq_getElem?_getD,List.getElem?_eq_getElem (by omega)]
 unfold topS
 rw [List.map_cons,List.sum_cons]; rfl
theorem zlI {s:Sht} {l:List Cpe} {i:Int} (h:¬ i < (l.length:Int)):topS s (l.drop i.toNat)=0:=by
 rw [List.drop_of_length_le (by omega)]; rfl
theorem zkv {v:Wll} {s:Sht} (hs:za4 s=true) {k:Cpe} (h:k∈zbi v s):(0≤k.width*k.high∧k.width*k.high≤1000000)∧0≤topF s k∧topF s k≤3000000000:=by
 obtain⟨h1,h2⟩:=zri hs h
 have hw:=zgO hs (z:=s.height) (by have:=(zaZ hs).height; omega) (Int.le_refl _)
 obtain⟨a1,a2⟩:=zc7 (x:=1000) (y:=1000) (a:=k.width) (b:=k.high) (by omega) h1.2 (by omega) h2.2
 refine⟨⟨a1,a2⟩,?_⟩
 exact zc7 (x:=1000000) (y:=3000) a1 a2 (by omega) hw.2
theorem zmH {v:Wll} {s:Sht} (hs:za4 s=true):∀ {l:List Cpe},(∀ k∈l,k∈zbi v s)→0≤topS s l∧topS s l≤l.length*3000000000
 | [],_=>by simp [topS]
 | k :: r,h=>by
  have h1:=zkv hs (h k (List.mem_cons_self ..))
  have h2:=zmH hs (l:=r) fun x hx=>h x (List.mem_cons_of_mem _ hx)
  unfold topS at *
  rw [List.map_cons,List.sum_cons,List.length_cons]
  have e:((r.length+1:Nat):Int)*3000000000=r.length*3000000000+3000000000:=by rw [Int.natCast_add,Int.add_mul]; simp
  omega
theorem znX {v:Wll} {s:Sht} (hs:za4 s=true) (n:Nat):0≤topS s ((zbi v s).drop n):=(zmH hs fun _ hk=>zhy hk).1
theorem zqT {v:Wll} {s:Sht} (hF:WallF v s.height) (hs:za4 s=true):topL v s≤300000000000000:=by
 have h1:=(zmH (v:=v) hs (l:=zbi v s) fun _ hk=>hk).2
 have h2:=zfB hF
 have h3:((zbi v s).length:Int)*3000000000≤100000*3000000000:=Int.mul_le_mul_of_nonneg_right h2 (by decide)
 show topS s (zbi v s)≤_
 omega
theorem ztb {s:Sht} {v:Wll} (hs:za4 s=true) {k:Cpe} (h:k∈zbi v s) {t:Int} (h0:0≤t) (h1:t+topF s k≤300000000000000):W (t+W (W (k.width*k.high)*zfv s s.height))=t+topF s k:=by
 have hn:=zaZ hs
 obtain⟨a,b⟩:=zkv hs h
 rw [zfM hn.batter hn.base (by have:=hn.height; omega) (by have:=hn.height; omega),zbr (n:=k.width*k.high) (by omega) (by omega),show k.width*k.high*zb5 s s.height=topF s k from rfl,zbr (n:=topF s k) (by omega) (by omega)]
 exact zbr (by omega) (by omega)
theorem zn1 {s:Sht} (hs:za4 s=true) {z:Int} (h0:0≤z) (h1:z≤s.height):zfv s z=zb5 s z:=by
 have hn:=zaZ hs
 exact zfM hn.batter hn.base h0 (by have:=hn.height; omega)
end Go.Pln
namespace Go.Proofs.YtdcfcfhmkfkgmaaGreatDoor
open Go.K Go.Stn Go.Pln Go.RowKit
theorem en65:En Tryz.prog 65:=za7 Tryz.func65 (by kernel_rfl) (by kernel_rfl)
theorem en66:En Tryz.prog 66:=za7 Tryz.func66 (by kernel_rfl) (by kernel_rfl)
set_option maxRecDepth 100000 in
set_option maxHeartbeats 8000000 in
theorem zi4 (a:Option Addr) (cap:Nat) (S:List ShC) (b:Option Addr) (bcap:Nat) (V:List WlC) (n:ByteArray) (w:World) (hl:Has w (zaW a 20 zbH S)) (hs:Small S.length) (hcS:S.length≤cap) (hlw:Has w (zaW b 4 zbS V)) (hsw:Small V.length) (hsh:∀ z∈S,Has w (Ints z.a z.s.heights)) (hss:∀ z∈S,Small z.s.heights.length) (hwo:∀ z∈V,Has w (zaW z.a 5 zba z.s.opens)) (hsv:∀ z∈V,Small z.s.opens.length) (hcp:∀ z∈V,z.s.opens.length≤z.cap) (hkn:∀ z∈V,∀ o∈z.s.opens,Knd o) :
  Calls Tryz.prog 30 #[.agg #[.slice a S.length cap,.slice b V.length bcap],.string n] w (zcU (fun z:Option Addr×Nat=>.tuple #[.int .i64 (ziJ S V n),.slice z.1 (zei S V n).length z.2,.int .i64 (zb6 S V n)]) (fun z=>Row z.1 1 z.2 3 Go.Stn.encI (zei S V n)) w):=by
 refine zan (vs:=[_,_]) Tryz.func30 rfl rfl (Nat.le_of_ble_eq_true rfl) ?_
 refine zac (zaa (zaG rfl rfl (za3 (vs:=[_,_]) rfl rfl) fun b2=>?_))
 refine gA ?_
 refine gA ?_
 refine gA ?_
 refine zag (zae (T':=[(1,_),(2,_),(4,_),(5,_),(6,_)]) ⟨rfl,rfl,rfl,rfl,rfl,trivial⟩ ?_)
 refine zac (zaa (gk_y rfl rfl (zat 0 tf31 rfl rfl (vs:=[_,_]) rfl rfl) ?_))
 refine gM ?_
 refine gQ (zaJ en62 rfl (fun w hw=>zm9 _ _ S _ _ V n w (Rd.has (Has.rd hl) hw) hs hcS (Rd.has (Has.rd hlw) hw) hsw (fun z hz=>(Rd.has (Has.rd (hsh z hz)) hw)) hss (fun z hz=>(Rd.has (Has.rd (hwo z hz)) hw)) hsv hcp hkn)) ?_
 refine gM ?_
 refine gQ (zaB rfl rfl) ?_
 refine gQ (zaB rfl rfl) ?_
 refine gQ (zaB rfl rfl) ?_
 refine zaG rfl rfl (zaL tf94 (zs:=[_,_,_,_]) rfl) fun b7=>?_
 refine zaG rfl rfl (zaL tf41 (zs:=[_,_,_,_,_,_,_,_,_,_,_,_,_,_,_,_,_,_,_,_]) rfl) fun b8=>?_
 refine zaA 1 tf94 rfl rfl (vs:=[_,_,_,_]) rfl rfl rfl rfl rfl ?_
 refine zbz 0 tf41 rfl rfl (vs:=[_,_,_,_,_,_,_,_,_,_,_,_,_,_,_,_,_,_,_,_]) rfl rfl rfl rfl rfl ?_
 refine gA ?_
 refine zag (zae (T':=[(4,_),(5,_),(6,_),(7,_),(8,_)]) ⟨rfl,rfl,rfl,rfl,rfl,trivial⟩ ?_)
 refine zac (zac (zaa (gM ?_)))
 refine gQ (zcr rfl rfl) ?_
 refine zag (zae (T':=[(4,_),(5,_),(6,_),(7,_),(8,_),(17,_)]) ⟨rfl,rfl,rfl,rfl,rfl,rfl,trivial⟩ ?_)
 refine zap rfl (fun hc17=>?_) (fun hc17=>?_)
 ·have hE:¬ zb6 S V n=0:=by simpa using hc17
  have e1:ziJ S V n=0:=if_neg hE
  have e2:zei S V n=[]:=if_neg hE
  refine zbB 3 Go.Stn.encI 1 ?_
  refine zac (zaa (gM ?_))
  refine gA ?_
  refine gA ?_
  refine gA ?_
  refine zag (zae (T':=[(4,_),(5,_),(6,_),(7,_),(8,_)]) ⟨rfl,rfl,rfl,rfl,rfl,trivial⟩ ?_)
  refine zaw (zbd (none,0) 0 (zdh rfl (zau rfl) (zau rfl) (zau rfl)) ?_ (by rw [e2]; rfl))
  rw [e1,e2] <;> rfl
 ·have hE:zb6 S V n=0:=by simpa using hc17
  obtain⟨m1,m2,hsp,hF⟩:=zfu hE
  have hnm:=zaZ hsp
  have htop:=hnm.height
  have e1:ziJ S V n=zi2 (zar S V n).s:=if_pos hE
  have e2:zei S V n=thrL (zaN S V n).s (zar S V n).s:=if_pos hE
  refine zaq (zac (zaa (gk_y rfl rfl (zat 1 tf94 rfl rfl (vs:=[_,_,_,_]) rfl rfl) ?_)))
  refine gQ (zat 0 tf41 rfl rfl (vs:=[_,_,_,_,_,_,_,_,_,_,_,_,_,_,_,_,_,_,_,_]) rfl rfl) ?_
  refine zaG rfl rfl (zbm en65 rfl (fun w hw=>zjx _ _ (zaN S V n).s _ _ (zar S V n).s w (Rd.has (Has.rd (zfL hwo)) hw) (Rd.has (Has.rd (zhG hsh)) hw) hF hsp)) fun p22=>?_
  refine gM ?_
  refine gQ (zaB rfl rfl) ?_
  refine gQ (zaB rfl rfl) ?_
  refine gA ?_
  refine gA ?_
  refine zag (zae (T':=[(4,_),(5,_),(6,_)]) ⟨rfl,rfl,rfl,trivial⟩ ?_)
  refine zac (zaa (gM ?_))
  refine gM ?_
  refine gA ?_
  refine gA ?_
  refine gA ?_
  refine zag (zae (T':=[(4,_),(5,_),(6,_)]) ⟨rfl,rfl,rfl,trivial⟩ ?_)
  refine zaw (zbd p22 0 (zdh rfl (zau rfl) (zau rfl) (zau rfl)) ?_ (by rw [e2]; rfl))
  rw [e1,e2,hE] <;> rfl
set_option maxRecDepth 100000 in
set_option maxHeartbeats 8000000 in
theorem zoL (a:Option Addr) (cap:Nat) (S:List ShC) (b:Option Addr) (bcap:Nat) (V:List WlC) (n:ByteArray) (w:World) (hl:Has w (zaW a 20 zbH S)) (hs:Small S.length) (hcS:S.length≤cap) (hlw:Has w (zaW b 4 zbS V)) (hsw:Small V.length) (hsh:∀ z∈S,Has w (Ints z.a z.s.heights)) (hss:∀ z∈S,Small z.s.heights.length) (hwo:∀ z∈V,Has w (zaW z.a 5 zba z.s.opens)) (hsv:∀ z∈V,Small z.s.opens.length) (hcp:∀ z∈V,z.s.opens.length≤z.cap) (hkn:∀ z∈V,∀ o∈z.s.opens,Knd o) :
  Calls Tryz.prog 31 #[.agg #[.slice a S.length cap,.slice b V.length bcap],.string n] w (zcU (fun z:Option Addr×Nat=>.tuple #[.slice z.1 (zcF S V n).length z.2,.int .i64 (zb6 S V n)]) (fun z=>Row z.1 3 z.2 87 zcm (zcF S V n)) w):=by
 refine zan (vs:=[_,_]) Tryz.func31 rfl rfl (Nat.le_of_ble_eq_true rfl) ?_
 refine zac (zaa (zaG rfl rfl (za3 (vs:=[_,_]) rfl rfl) fun b2=>?_))
 refine gA ?_
 refine gA ?_
 refine zag (zae (T':=[(1,_),(2,_),(4,_),(5,_)]) ⟨rfl,rfl,rfl,rfl,trivial⟩ ?_)
 refine zac (zaa (gk_y rfl rfl (zat 0 tf31 rfl rfl (vs:=[_,_]) rfl rfl) ?_))
 refine gM ?_
 refine gQ (zaJ en62 rfl (fun w hw=>zm9 _ _ S _ _ V n w (Rd.has (Has.rd hl) hw) hs hcS (Rd.has (Has.rd hlw) hw) hsw (fun z hz=>(Rd.has (Has.rd (hsh z hz)) hw)) hss (fun z hz=>(Rd.has (Has.rd (hwo z hz)) hw)) hsv hcp hkn)) ?_
 refine gM ?_
 refine gQ (zaB rfl rfl) ?_
 refine gQ (zaB rfl rfl) ?_
 refine gQ (zaB rfl rfl) ?_
 refine zaG rfl rfl (zaL tf94 (zs:=[_,_,_,_]) rfl) fun b6=>?_
 refine zaG rfl rfl (zaL tf41 (zs:=[_,_,_,_,_,_,_,_,_,_,_,_,_,_,_,_,_,_,_,_]) rfl) fun b7=>?_
 refine zaA 1 tf94 rfl rfl (vs:=[_,_,_,_]) rfl rfl rfl rfl rfl ?_
 refine zbz 0 tf41 rfl rfl (vs:=[_,_,_,_,_,_,_,_,_,_,_,_,_,_,_,_,_,_,_,_]) rfl rfl rfl rfl rfl ?_
 refine gA ?_
 refine zag (zae (T':=[(4,_),(5,_),(6,_),(7,_),(8,_)]) ⟨rfl,rfl,rfl,rfl,rfl,trivial⟩ ?_)
 refine zac (zac (zaa (gM ?_)))
 refine gQ (zcr rfl rfl) ?_
 refine zag (zae (T':=[(4,_),(5,_),(6,_),(7,_),(8,_),(17,_)]) ⟨rfl,rfl,rfl,rfl,rfl,rfl,trivial⟩ ?_)
 refine zap rfl (fun hc17=>?_) (fun hc17=>?_)
 ·have hE:¬ zb6 S V n=0:=by simpa using hc17
  have e2:zcF S V n=[]:=if_neg hE
  refine zbB 87 zcm 3 ?_
  refine zac (zaa (gM ?_))
  refine gA ?_
  refine gA ?_
  refine zag (zae (T':=[(4,_),(5,_),(6,_),(7,_)]) ⟨rfl,rfl,rfl,rfl,trivial⟩ ?_)
  refine zaw (zbd (none,0) 0 (zc2 rfl (zau rfl) (zau rfl)) ?_ (by rw [e2]; rfl))
  rw [e2] <;> rfl
 ·have hE:zb6 S V n=0:=by simpa using hc17
  obtain⟨m1,m2,hsp,hF⟩:=zfu hE
  have hnm:=zaZ hsp
  have htop:=hnm.height
  have e2:zcF S V n=zbi (zaN S V n).s (zar S V n).s:=if_pos hE
  refine zaq (zac (zaa (gk_y rfl rfl (zat 1 tf94 rfl rfl (vs:=[_,_,_,_]) rfl rfl) ?_)))
  refine gQ (zat 0 tf41 rfl rfl (vs:=[_,_,_,_,_,_,_,_,_,_,_,_,_,_,_,_,_,_,_,_]) rfl rfl) ?_
  refine zaG rfl rfl (zbm en66 rfl (fun w hw=>zpb _ _ (zaN S V n).s _ _ (zar S V n).s w (Rd.has (Has.rd (zfL hwo)) hw) hF hsp)) fun p21=>?_
  refine gA ?_
  refine gA ?_
  refine zag (zae (T':=[(4,_),(5,_)]) ⟨rfl,rfl,trivial⟩ ?_)
  refine zaw (zbd p21 0 (zc2 rfl (zau rfl) (zau rfl)) ?_ (by rw [e2]; rfl))
  rw [e2,hE] <;> rfl
end Go.Proofs.YtdcfcfhmkfkgmaaGreatDoor
namespace Go.Proofs.YtdcfcfhmkfkgmaaGreatDoor
open Go.K Go.Stn Go.Pln Go.RowKit
theorem tf2:TF Tryz.prog 2 false 1 (.int IntKind.i64 0):=⟨by kernel_rfl,by kernel_rfl⟩
theorem tf77:TF Tryz.prog 77 true 7 (.agg #[.int IntKind.i64 0,.int IntKind.i64 0,.int IntKind.i64 0,.int IntKind.i64 0,.int IntKind.i64 0,.int IntKind.i64 0,.int IntKind.i64 0]):=⟨by kernel_rfl,by kernel_rfl⟩
theorem tf87:TF Tryz.prog 87 true 3 (.agg #[.int IntKind.i64 0,.int IntKind.i64 0,.int IntKind.i64 0]):=⟨by kernel_rfl,by kernel_rfl⟩
theorem zpA:FO Tryz.prog 77 0 0:=⟨by kernel_rfl⟩
theorem zpB:FO Tryz.prog 77 1 1:=⟨by kernel_rfl⟩
theorem zsM:FO Tryz.prog 77 2 2:=⟨by kernel_rfl⟩
theorem zpC:FO Tryz.prog 77 3 3:=⟨by kernel_rfl⟩
theorem zsN:FO Tryz.prog 77 4 4:=⟨by kernel_rfl⟩
theorem zsO:FO Tryz.prog 77 5 5:=⟨by kernel_rfl⟩
theorem zpD:FO Tryz.prog 77 6 6:=⟨by kernel_rfl⟩
theorem zsT:FO Tryz.prog 87 1 1:=⟨by kernel_rfl⟩
theorem zsU:FO Tryz.prog 87 2 2:=⟨by kernel_rfl⟩
theorem se73:SE Tryz.prog 73 87 3:=⟨Tryz.underlying73,by kernel_rfl⟩
theorem zva  (w:World):(Instr.build 77 #[]).run Tryz.prog w=.ok (.agg #[.int IntKind.i64 0,.int IntKind.i64 0,.int IntKind.i64 0,.int IntKind.i64 0,.int IntKind.i64 0,.int IntKind.i64 0,.int IntKind.i64 0]) w:=by kernel_rfl
set_option maxRecDepth 100000 in
set_option maxHeartbeats 32000000 in
theorem zsB (a:Option Addr) (cap:Nat) (S:List ShC) (b:Option Addr) (bcap:Nat) (V:List WlC) (n:ByteArray) (w:World) (hl:Has w (zaW a 20 zbH S)) (hs:Small S.length) (hcS:S.length≤cap) (hlw:Has w (zaW b 4 zbS V)) (hsw:Small V.length) (hsh:∀ z∈S,Has w (Ints z.a z.s.heights)) (hss:∀ z∈S,Small z.s.heights.length) (hwo:∀ z∈V,Has w (zaW z.a 5 zba z.s.opens)) (hsv:∀ z∈V,Small z.s.opens.length) (hcp:∀ z∈V,z.s.opens.length≤z.cap) (hkn:∀ z∈V,∀ o∈z.s.opens,Knd o) :
  Calls Tryz.prog 32 #[.agg #[.slice a S.length cap,.slice b V.length bcap],.string n] w (Pure (.tuple #[.agg #[.int .i64 (zcx S V n).face,.int .i64 (zcx S V n).heart,.int .i64 (zcx S V n).foot,.int .i64 (zcx S V n).top,.int .i64 (zcx S V n).throughs,.int .i64 (zcx S V n).copes,.int .i64 (zcx S V n).roods],.int .i64 (zb6 S V n)]) w):=by
 refine zan (vs:=[_,_]) Tryz.func32 rfl rfl (Nat.le_of_ble_eq_true rfl) ?_
 refine zac (zaa (zaG rfl rfl (za3 (vs:=[_,_]) rfl rfl) fun b2=>?_))
 refine zaG rfl rfl (zaL tf77 (zs:=[_,_,_,_,_,_,_]) rfl) fun b4=>?_
 refine gA ?_
 refine zag (zae (T':=[(1,_),(2,_),(4,_),(5,_)]) ⟨rfl,rfl,rfl,rfl,trivial⟩ ?_)
 refine zac (zaa (gk_y rfl rfl (zat 1 tf31 rfl rfl (vs:=[_,_]) rfl rfl) ?_))
 refine gM ?_
 refine gQ (zaJ en62 rfl (fun w hw=>zm9 _ _ S _ _ V n w (Rd.has (Has.rd hl) hw) hs hcS (Rd.has (Has.rd hlw) hw) hsw (fun z hz=>(Rd.has (Has.rd (hsh z hz)) hw)) hss (fun z hz=>(Rd.has (Has.rd (hwo z hz)) hw)) hsv hcp hkn)) ?_
 refine gM ?_
 refine gQ (zaB rfl rfl) ?_
 refine gQ (zaB rfl rfl) ?_
 refine gQ (zaB rfl rfl) ?_
 refine zaG rfl rfl (zaL tf94 (zs:=[_,_,_,_]) rfl) fun b6=>?_
 refine zaG rfl rfl (zaL tf41 (zs:=[_,_,_,_,_,_,_,_,_,_,_,_,_,_,_,_,_,_,_,_]) rfl) fun b7=>?_
 refine zaA 1 tf94 rfl rfl (vs:=[_,_,_,_]) rfl rfl rfl rfl rfl ?_
 refine zbz 0 tf41 rfl rfl (vs:=[_,_,_,_,_,_,_,_,_,_,_,_,_,_,_,_,_,_,_,_]) rfl rfl rfl rfl rfl ?_
 refine gA ?_
 refine zag (zae (T':=[(4,_),(5,_),(6,_),(7,_),(8,_)]) ⟨rfl,rfl,rfl,rfl,rfl,trivial⟩ ?_)
 refine zac (zac (zaa (gM ?_)))
 refine gQ (zcr rfl rfl) ?_
 refine zag (zae (T':=[(4,_),(5,_),(6,_),(7,_),(8,_),(29,_)]) ⟨rfl,rfl,rfl,rfl,rfl,rfl,trivial⟩ ?_)
 refine zap rfl (fun hc29=>?_) (fun hc29=>?_)
 ·have hE:¬ zb6 S V n=0:=by simpa using hc29
  have e2:zcx S V n=⟨0,0,0,0,0,0,0⟩:=if_neg hE
  refine zac (zaa (gk_y rfl rfl (zaI (parts:=[]) rfl zva) ?_))
  refine gM ?_
  refine zaA 2 tf77 rfl rfl (vs:=[_,_,_,_,_,_,_]) rfl rfl rfl rfl rfl ?_
  refine gA ?_
  refine zag (zae (T':=[(4,_),(5,_),(6,_),(7,_)]) ⟨rfl,rfl,rfl,rfl,trivial⟩ ?_)
  refine zaw (zay (zc2 rfl (zbU (i:=2) (vs:=[_,_,_,_,_,_,_]) tf77 rfl rfl rfl rfl) (zau rfl)) ?_)
  rw [e2] <;> rfl
 ·have hE:zb6 S V n=0:=by simpa using hc29
  obtain⟨m1,m2,hsp,hF⟩:=zfu hE
  have hnm:=zaZ hsp
  have htop:=hnm.height
  have e2:zcx S V n=zdz (zaN S V n).s (zar S V n).s:=if_pos hE
  have hncr:=zcv hsp
  have hlen:=hF.len
  have hft:=zm7 hF hsp
  have hht:=zk3 hF hsp
  have htt:=zqT hF hsp
  have hcpn:=zfB hF
  refine zaq (zac (zaa (zaG rfl rfl (zaL tf77 (zs:=[_,_,_,_,_,_,_]) rfl) fun b9=>?_)))
  refine zag (zae (T':=[(4,_),(5,_),(6,_),(7,_),(9,_)]) ⟨rfl,rfl,rfl,rfl,rfl,trivial⟩ ?_)
  refine zac (zac (zaa (gk_y rfl rfl (zat 1 tf41 rfl rfl (vs:=[_,_,_,_,_,_,_,_,_,_,_,_,_,_,_,_,_,_,_,_]) rfl rfl) ?_)))
  refine zaG rfl rfl (zbm en49 rfl (fun w hw=>ze3 ((zar S V n).a) ((zar S V n).cap) ((zar S V n).s) w (Rd.has (Has.rd (zhG hsh)) hw) hnm)) fun p33=>?_
  refine gQ (zaV (Tryz.underlying38) rfl) ?_
  refine gM ?_
  refine zag (zae (T':=[(4,_),(5,_),(6,_),(7,_),(9,_),(33,_),(34,_),(35,_)]) ⟨rfl,rfl,rfl,rfl,rfl,rfl,rfl,rfl,trivial⟩ ?_)
  refine zas ?_
  refine zbf (X:=Int×Int×Int) (fun⟨i,fc,hc⟩=>[(4,.pointer (some ⟨b4,0,none⟩)),(5,.int .i64 0),(6,.pointer (some ⟨b6,0,none⟩)),(7,.pointer (some ⟨b7,0,none⟩)),(9,.pointer (some ⟨b9,0,none⟩)),(33,.slice p33.1 (zaj ((zar S V n).s)).length p33.2),(34,.int .i64 ((zaj ((zar S V n).s)).length:Int)),(35,.int .i64 i)]) (fun⟨i,fc,hc⟩=>[Row p33.1 2 p33.2 49 zbq (zaj ((zar S V n).s)),Box b9 [.int .i64 fc,.int .i64 hc,.int .i64 0,.int .i64 0,.int .i64 0,.int .i64 0,.int .i64 0] 77,Box b7 [.string (zar S V n).s.name,.int .i64 ((zar S V n).s.base),.int .i64 ((zar S V n).s.batter),.int .i64 ((zar S V n).s.height),.int .i64 ((zar S V n).s.skin),.slice (zar S V n).a (zar S V n).s.heights.length (zar S V n).cap,.int .i64 ((zar S V n).s.least),.int .i64 ((zar S V n).s.lap),.int .i64 ((zar S V n).s.run),.int .i64 ((zar S V n).s.every),.int .i64 ((zar S V n).s.at_),.int .i64 ((zar S V n).s.footing),.int .i64 ((zar S V n).s.spread),.int .u8 (zar S V n).s.cope,.int .i64 ((zar S V n).s.tall),.int .i64 ((zar S V n).s.short),.int .i64 ((zar S V n).s.thick),.int .i64 ((zar S V n).s.low),.int .i64 ((zar S V n).s.high),.int .i64 ((zar S V n).s.rood)] 41,Box b6 [.string (zaN S V n).s.name,.string (zaN S V n).s.sheet,.int .i64 ((zaN S V n).s.length),.slice (zaN S V n).a (zaN S V n).s.opens.length (zaN S V n).cap] 94,Box b4 [.int .i64 0,.int .i64 0,.int .i64 0,.int .i64 0,.int .i64 0,.int .i64 0,.int .i64 0] 77,Box b2 [.slice a S.length cap,.slice b V.length bcap] 31]) (fun⟨i,fc,hc⟩=>(0≤i∧i≤(zaj (zar S V n).s).length∧0≤fc∧0≤hc∧fc+sumB (zh0 (zaN S V n).s (zar S V n).s) ((zaj (zar S V n).s).drop i.toNat)=(zcJ (zaN S V n).s (zar S V n).s)∧hc+sumB (zfi (zaN S V n).s (zar S V n).s) ((zaj (zar S V n).s).drop i.toNat)=(zca (zaN S V n).s (zar S V n).s))) (fun⟨i,fc,hc⟩=>((zaj (zar S V n).s).length - i).toNat) (0,0,0) ⟨rfl,rfl,rfl,rfl,rfl,rfl,rfl,rfl,trivial⟩ rfl ?_ ?_
  ·exact⟨by omega,by omega,by omega,by omega,Int.zero_add _,Int.zero_add _⟩
  ·rintro ⟨i,fc,hc⟩ hI
   obtain⟨g0,g1,g2,g3,g4,g5⟩:=hI
   refine zac (zaa (gk_y rfl rfl (zbw rfl rfl) ?_))
   refine zag (zae (T':=[(4,_),(5,_),(6,_),(7,_),(9,_),(33,_),(34,_),(35,_),(36,_)]) ⟨rfl,rfl,rfl,rfl,rfl,rfl,rfl,rfl,rfl,trivial⟩ ?_)
   refine zac (zap rfl (fun hc36=>?_) (fun hc36=>?_))
   ·have hc36:=of_decide_eq_true hc36
    have hci:=zpc hnm g0 hc36
    have hfd:=zdt (f:=(zh0 (zaN S V n).s (zar S V n).s)) g0 hc36
    have hhd:=zdt (f:=(zfi (zaN S V n).s (zar S V n).s)) g0 hc36
    have hbn:((zbg (zaN S V n).s ((zaj (zar S V n).s).getD i.toNat default)).length:Int)≤100000:=zek hF (zgu ((zaj (zar S V n).s).getD i.toNat default))
    refine zaq (zac (zas ?_))
    refine zac (zaa (gk_y rfl rfl (zaE se38 rfl rfl (fun _ hw=>(zam zax (hw.has (p:=0) rfl))) (by omega) (by omega)) ?_))
    refine gQ (zbv (vs:=[_,_]) tf49 rfl (fun _ hw=>(zam zax (hw.has (p:=0) rfl))) (by omega) (by omega) rfl) ?_
    refine zaG rfl rfl (zaL tf49 (zs:=[_,_]) rfl) fun b11=>?_
    refine zaA 0 tf49 rfl rfl (vs:=[_,_]) rfl rfl rfl rfl rfl ?_
    refine zag (zae (T':=[(4,_),(5,_),(6,_),(7,_),(9,_),(11,_),(33,_),(34,_),(35,_)]) ⟨rfl,rfl,rfl,rfl,rfl,rfl,rfl,rfl,rfl,trivial⟩ ?_)
    refine zac (zaa (gk_y rfl rfl (zat 3 tf41 rfl rfl (vs:=[_,_,_,_,_,_,_,_,_,_,_,_,_,_,_,_,_,_,_,_]) rfl rfl) ?_))
    refine gQ (zab zne rfl) ?_
    refine gQ (zah 0 tf3 rfl rfl rfl) ?_
    refine gQ (zaJ en50 rfl (fun w hw=>zkA ((zar S V n).a) ((zar S V n).cap) ((zar S V n).s) _ w)) ?_
    refine gA ?_
    refine zag (zae (T':=[(4,_),(5,_),(6,_),(7,_),(9,_),(11,_),(12,_),(33,_),(34,_),(35,_)]) ⟨rfl,rfl,rfl,rfl,rfl,rfl,rfl,rfl,rfl,rfl,trivial⟩ ?_)
    refine zae (T':=[(4,_),(5,_),(6,_),(7,_),(9,_),(11,_),(12,.int .i64 (zb5 (zar S V n).s ((zaj (zar S V n).s).getD i.toNat default).frm)),(33,_),(34,_),(35,_)]) ⟨rfl,rfl,rfl,rfl,rfl,rfl,(by show some (Value.int .i64 (zfv (zar S V n).s ((zaj (zar S V n).s).getD i.toNat default).frm))=_; rw [zn1 hsp (by omega) (by omega)]),rfl,rfl,rfl,trivial⟩ ?_
    refine zac (zaa (gk_y rfl rfl (zat 4 tf94 rfl rfl (vs:=[_,_,_,_]) rfl rfl) ?_))
    refine gQ (zat 0 tf49 rfl rfl (vs:=[_,_]) rfl rfl) ?_
    refine zaG rfl rfl (zbm en63 rfl (fun w hw=>zoZ _ _ (zaN S V n).s ((zaj (zar S V n).s).getD i.toNat default) _ w (Rd.has (Has.rd (zfL hwo)) hw) hF (by omega))) fun p45=>?_
    refine gQ (zaV (Tryz.underlying59) rfl) ?_
    refine gM ?_
    refine zag (zae (T':=[(4,_),(5,_),(6,_),(7,_),(9,_),(11,_),(12,_),(33,_),(34,_),(35,_),(45,_),(46,_),(47,_)]) ⟨rfl,rfl,rfl,rfl,rfl,rfl,rfl,rfl,rfl,rfl,rfl,rfl,rfl,trivial⟩ ?_)
    refine zas ?_
    refine zbf (X:=Int×Int×Int) (fun⟨j,f2,h2⟩=>[(4,.pointer (some ⟨b4,0,none⟩)),(5,.int .i64 0),(6,.pointer (some ⟨b6,0,none⟩)),(7,.pointer (some ⟨b7,0,none⟩)),(9,.pointer (some ⟨b9,0,none⟩)),(11,.pointer (some ⟨b11,0,none⟩)),(12,.int .i64 (zb5 (zar S V n).s ((zaj (zar S V n).s).getD i.toNat default).frm)),(33,.slice p33.1 (zaj ((zar S V n).s)).length p33.2),(34,.int .i64 ((zaj ((zar S V n).s)).length:Int)),(35,.int .i64 i),(45,.slice p45.1 (zbg (zaN S V n).s ((zaj (zar S V n).s).getD i.toNat default)).length p45.2),(46,.int .i64 ((zbg (zaN S V n).s ((zaj (zar S V n).s).getD i.toNat default)).length:Int)),(47,.int .i64 j)]) (fun⟨j,f2,h2⟩=>[Row p45.1 2 p45.2 69 zbq (zbg (zaN S V n).s ((zaj (zar S V n).s).getD i.toNat default)),Box b11 [.int .i64 ((zaj ((zar S V n).s)).getD (i).toNat default).frm,.int .i64 ((zaj ((zar S V n).s)).getD (i).toNat default).to] 49,Row p33.1 2 p33.2 49 zbq (zaj ((zar S V n).s)),Box b9 [.int .i64 f2,.int .i64 h2,.int .i64 0,.int .i64 0,.int .i64 0,.int .i64 0,.int .i64 0] 77,Box b7 [.string (zar S V n).s.name,.int .i64 ((zar S V n).s.base),.int .i64 ((zar S V n).s.batter),.int .i64 ((zar S V n).s.height),.int .i64 ((zar S V n).s.skin),.slice (zar S V n).a (zar S V n).s.heights.length (zar S V n).cap,.int .i64 ((zar S V n).s.least),.int .i64 ((zar S V n).s.lap),.int .i64 ((zar S V n).s.run),.int .i64 ((zar S V n).s.every),.int .i64 ((zar S V n).s.at_),.int .i64 ((zar S V n).s.footing),.int .i64 ((zar S V n).s.spread),.int .u8 (zar S V n).s.cope,.int .i64 ((zar S V n).s.tall),.int .i64 ((zar S V n).s.short),.int .i64 ((zar S V n).s.thick),.int .i64 ((zar S V n).s.low),.int .i64 ((zar S V n).s.high),.int .i64 ((zar S V n).s.rood)] 41,Box b6 [.string (zaN S V n).s.name,.string (zaN S V n).s.sheet,.int .i64 ((zaN S V n).s.length),.slice (zaN S V n).a (zaN S V n).s.opens.length (zaN S V n).cap] 94,Box b4 [.int .i64 0,.int .i64 0,.int .i64 0,.int .i64 0,.int .i64 0,.int .i64 0,.int .i64 0] 77,Box b2 [.slice a S.length cap,.slice b V.length bcap] 31]) (fun⟨j,f2,h2⟩=>(0≤j∧j≤(zbg (zaN S V n).s ((zaj (zar S V n).s).getD i.toNat default)).length∧0≤f2∧0≤h2∧f2+(sumB (fun b=>zcw ((zaj (zar S V n).s).getD i.toNat default) b*zcY (zar S V n).s ((zaj (zar S V n).s).getD i.toNat default)) ((zbg (zaN S V n).s ((zaj (zar S V n).s).getD i.toNat default)).drop j.toNat)+sumB (zh0 (zaN S V n).s (zar S V n).s) ((zaj (zar S V n).s).drop (i+1).toNat))=(zcJ (zaN S V n).s (zar S V n).s)∧h2+(sumB (fun b=>zcw ((zaj (zar S V n).s).getD i.toNat default) b*zct (zar S V n).s ((zaj (zar S V n).s).getD i.toNat default)) ((zbg (zaN S V n).s ((zaj (zar S V n).s).getD i.toNat default)).drop j.toNat)+sumB (zfi (zaN S V n).s (zar S V n).s) ((zaj (zar S V n).s).drop (i+1).toNat))=(zca (zaN S V n).s (zar S V n).s))) (fun⟨j,f2,h2⟩=>((zbg (zaN S V n).s ((zaj (zar S V n).s).getD i.toNat default)).length - j).toNat) (0,fc,hc) ⟨rfl,rfl,rfl,rfl,rfl,rfl,rfl,rfl,rfl,rfl,rfl,rfl,rfl,trivial⟩ rfl ?_ ?_
    ·exact⟨by omega,by omega,g2,g3,by rw [←g4,hfd]; rfl,by rw [←g5,hhd]; rfl⟩
    ·rintro ⟨j,f2,h2⟩ hI
     obtain⟨k0,k1,k2,k3,k4,k5⟩:=hI
     refine zac (zaa (gk_y rfl rfl (zbw rfl rfl) ?_))
     refine zag (zae (T':=[(4,_),(5,_),(6,_),(7,_),(9,_),(11,_),(12,_),(33,_),(34,_),(35,_),(45,_),(46,_),(47,_),(48,_)]) ⟨rfl,rfl,rfl,rfl,rfl,rfl,rfl,rfl,rfl,rfl,rfl,rfl,rfl,rfl,trivial⟩ ?_)
     refine zac (zap rfl (fun hc48=>?_) (fun hc48=>?_))
     ·have hc48:=of_decide_eq_true hc48
      have hbi:0≤((zbg (zaN S V n).s ((zaj (zar S V n).s).getD i.toNat default)).getD j.toNat default).frm∧((zbg (zaN S V n).s ((zaj (zar S V n).s).getD i.toNat default)).getD j.toNat default).frm < ((zbg (zaN S V n).s ((zaj (zar S V n).s).getD i.toNat default)).getD j.toNat default).to∧((zbg (zaN S V n).s ((zaj (zar S V n).s).getD i.toNat default)).getD j.toNat default).to≤(zaN S V n).s.length:=zmS hF k0 hc48
      have hbm:=za0 (l:=(zbg (zaN S V n).s ((zaj (zar S V n).s).getD i.toNat default))) (i:=j.toNat) (by omega)
      have hai:=zjD hF (by omega) hbm
      have hfb:=zdt (f:=(fun b=>zcw ((zaj (zar S V n).s).getD i.toNat default) b*zcY (zar S V n).s ((zaj (zar S V n).s).getD i.toNat default))) k0 hc48
      have hhb:=zdt (f:=(fun b=>zcw ((zaj (zar S V n).s).getD i.toNat default) b*zct (zar S V n).s ((zaj (zar S V n).s).getD i.toNat default))) k0 hc48
      have hfr:=zhv hF (c:=((zaj (zar S V n).s).getD i.toNat default)) (by omega) (zd5 hsp hci).1 (j+1).toNat
      have hhr:=zhv hF (c:=((zaj (zar S V n).s).getD i.toNat default)) (by omega) (zdV hsp hci).1 (j+1).toNat
      have hfz:=zkT hF hsp (i+1).toNat
      have hhz:=zjl hF hsp (i+1).toNat
      have hfp:=Int.mul_nonneg hai.1 (zd5 hsp hci).1
      have hhp:=Int.mul_nonneg hai.1 (zdV hsp hci).1
      refine zaq (zac (zas ?_))
      refine zac (zaa (gk_y rfl rfl (zaE se59 rfl rfl (fun _ hw=>(zam zax (hw.has (p:=0) rfl))) (by omega) (by omega)) ?_))
      refine gQ (zbv (vs:=[_,_]) tf69 rfl (fun _ hw=>(zam zax (hw.has (p:=0) rfl))) (by omega) (by omega) rfl) ?_
      refine zaG rfl rfl (zaL tf69 (zs:=[_,_]) rfl) fun b14=>?_
      refine zaA 0 tf69 rfl rfl (vs:=[_,_]) rfl rfl rfl rfl rfl ?_
      refine zag (zae (T':=[(4,_),(5,_),(6,_),(7,_),(9,_),(11,_),(12,_),(14,_),(33,_),(34,_),(35,_),(45,_),(46,_),(47,_)]) ⟨rfl,rfl,rfl,rfl,rfl,rfl,rfl,rfl,rfl,rfl,rfl,rfl,rfl,rfl,trivial⟩ ?_)
      refine zac (zaa (gk_y rfl rfl (zab zng rfl) ?_))
      refine gQ (zah 0 tf3 rfl rfl rfl) ?_
      refine gQ (zab zpz rfl) ?_
      refine gQ (zah 0 tf3 rfl rfl rfl) ?_
      refine gQ (ziW rfl rfl) ?_
      refine gQ (zab zpx rfl) ?_
      refine gQ (zah 2 tf3 rfl rfl rfl) ?_
      refine gQ (zab zne rfl) ?_
      refine gQ (zah 2 tf3 rfl rfl rfl) ?_
      refine gQ (ziW rfl rfl) ?_
      refine gQ (zdv rfl rfl) ?_
      refine gA ?_
      refine zag (zae (T':=[(4,_),(5,_),(6,_),(7,_),(9,_),(11,_),(12,_),(15,_),(33,_),(34,_),(35,_),(45,_),(46,_),(47,_)]) ⟨rfl,rfl,rfl,rfl,rfl,rfl,rfl,rfl,rfl,rfl,rfl,rfl,rfl,rfl,trivial⟩ ?_)
      refine zae (T':=[(4,_),(5,_),(6,_),(7,_),(9,_),(11,_),(12,_),(15,.int .i64 (zcw ((zaj (zar S V n).s).getD i.toNat default) ((zbg (zaN S V n).s ((zaj (zar S V n).s).getD i.toNat default)).getD j.toNat default))),(33,_),(34,_),(35,_),(45,_),(46,_),(47,_)]) ⟨rfl,rfl,rfl,rfl,rfl,rfl,rfl,(by show some (Value.int .i64 (W (W (((zbg (zaN S V n).s ((zaj (zar S V n).s).getD i.toNat default)).getD j.toNat default).to - ((zbg (zaN S V n).s ((zaj (zar S V n).s).getD i.toNat default)).getD j.toNat default).frm)*W (((zaj (zar S V n).s).getD i.toNat default).to - ((zaj (zar S V n).s).getD i.toNat default).frm))))=_; rw [zoT (by omega) (by omega)]),rfl,rfl,rfl,rfl,rfl,rfl,trivial⟩ ?_
      refine zac (zaa (gk_y rfl rfl (zab zpA rfl) ?_))
      refine gQ (zah 4 tf2 rfl rfl rfl) ?_
      refine gM ?_
      refine gQ (zab znd rfl) ?_
      refine gQ (zah 5 tf3 rfl rfl rfl) ?_
      refine gQ (zdv rfl rfl) ?_
      refine gM ?_
      refine gQ (zsy rfl rfl) ?_
      refine gQ (zdv rfl rfl) ?_
      refine gQ (zfw rfl rfl) ?_
      refine gQ (zab zpA rfl) ?_
      refine zaA 4 tf2 rfl rfl (vs:=[_]) rfl rfl rfl rfl rfl ?_
      refine zag (zae (T':=[(4,_),(5,_),(6,_),(7,_),(9,_),(11,_),(12,_),(15,_),(33,_),(34,_),(35,_),(45,_),(46,_),(47,_)]) ⟨rfl,rfl,rfl,rfl,rfl,rfl,rfl,rfl,rfl,rfl,rfl,rfl,rfl,rfl,trivial⟩ ?_)
      refine za2 (R':=Box b9 [.int .i64 (f2+(zcw ((zaj (zar S V n).s).getD i.toNat default) ((zbg (zaN S V n).s ((zaj (zar S V n).s).getD i.toNat default)).getD j.toNat default))*zcY (zar S V n).s ((zaj (zar S V n).s).getD i.toNat default)),.int .i64 h2,.int .i64 0,.int .i64 0,.int .i64 0,.int .i64 0,.int .i64 0] 77) 4 rfl (fun B w hA=>by rw [←ztL (s:=(zar S V n).s) hsp hci hai k2 (by omega)]; exact hA) ?_
      refine zaa (gk_y rfl rfl (zab zpB rfl) ?_)
      refine gQ (zah 4 tf2 rfl rfl rfl) ?_
      refine gM ?_
      refine gM ?_
      refine gQ (zab znd rfl) ?_
      refine gQ (zah 5 tf3 rfl rfl rfl) ?_
      refine gQ (zdv rfl rfl) ?_
      refine gQ (ziW rfl rfl) ?_
      refine gQ (zws rfl rfl) ?_
      refine gQ (zdv rfl rfl) ?_
      refine gQ (zfw rfl rfl) ?_
      refine gQ (zab zpB rfl) ?_
      refine zaA 4 tf2 rfl rfl (vs:=[_]) rfl rfl rfl rfl rfl ?_
      refine zag (zae (T':=[(4,_),(5,_),(6,_),(7,_),(9,_),(11,_),(12,_),(33,_),(34,_),(35,_),(45,_),(46,_),(47,_)]) ⟨rfl,rfl,rfl,rfl,rfl,rfl,rfl,rfl,rfl,rfl,rfl,rfl,rfl,trivial⟩ ?_)
      refine za2 (R':=Box b9 [.int .i64 (f2+(zcw ((zaj (zar S V n).s).getD i.toNat default) ((zbg (zaN S V n).s ((zaj (zar S V n).s).getD i.toNat default)).getD j.toNat default))*zcY (zar S V n).s ((zaj (zar S V n).s).getD i.toNat default)),.int .i64 (h2+(zcw ((zaj (zar S V n).s).getD i.toNat default) ((zbg (zaN S V n).s ((zaj (zar S V n).s).getD i.toNat default)).getD j.toNat default))*zct (zar S V n).s ((zaj (zar S V n).s).getD i.toNat default)),.int .i64 0,.int .i64 0,.int .i64 0,.int .i64 0,.int .i64 0] 77) 4 rfl (fun B w hA=>by rw [←zrw (s:=(zar S V n).s) hsp hci hai k3 (by omega)]; exact hA) ?_
      refine zaa (gk_y rfl rfl (zaY rfl rfl (by omega) (by omega)) ?_)
      refine gM ?_
      refine zag (zae (T':=[(4,_),(5,_),(6,_),(7,_),(9,_),(11,_),(12,_),(33,_),(34,_),(35,_),(45,_),(46,_),(47,_)]) ⟨rfl,rfl,rfl,rfl,rfl,rfl,rfl,rfl,rfl,rfl,rfl,rfl,rfl,trivial⟩ ?_)
      refine zaK 0 rfl ?_
      exact za1 (j+1,f2+(zcw ((zaj (zar S V n).s).getD i.toNat default) ((zbg (zaN S V n).s ((zaj (zar S V n).s).getD i.toNat default)).getD j.toNat default))*zcY (zar S V n).s ((zaj (zar S V n).s).getD i.toNat default),h2+(zcw ((zaj (zar S V n).s).getD i.toNat default) ((zbg (zaN S V n).s ((zaj (zar S V n).s).getD i.toNat default)).getD j.toNat default))*zct (zar S V n).s ((zaj (zar S V n).s).getD i.toNat default)) ⟨rfl,rfl,rfl,rfl,rfl,rfl,rfl,rfl,rfl,rfl,rfl,rfl,rfl,trivial⟩ rfl ⟨by omega,by omega,by omega,by omega,by omega,by omega⟩ (by simp only []; omega)
     ·have hc48:=of_decide_eq_false hc48
      rw [zds hc48,Int.zero_add] at k4
      rw [zds hc48,Int.zero_add] at k5
      refine za8 rfl ?_
      refine zaa (gk_y rfl rfl (zaY rfl rfl (by omega) (by omega)) ?_)
      refine gM ?_
      refine zag (zae (T':=[(4,_),(5,_),(6,_),(7,_),(9,_),(33,_),(34,_),(35,_)]) ⟨rfl,rfl,rfl,rfl,rfl,rfl,rfl,rfl,trivial⟩ ?_)
      refine zaK 0 rfl ?_
      refine zaK 0 rfl ?_
      exact za1 (i+1,f2,h2) ⟨rfl,rfl,rfl,rfl,rfl,rfl,rfl,rfl,trivial⟩ rfl ⟨by omega,by omega,k2,k3,k4,k5⟩ (by simp only []; omega)
   ·have hc36:=of_decide_eq_false hc36
    rw [zds hc36,Int.add_zero] at g4
    rw [zds hc36,Int.add_zero] at g5
    refine za8 rfl ?_
    refine zac (zaa (gk_y rfl rfl (zab zgo rfl) ?_))
    refine gQ (zah 3 tf3 rfl rfl rfl) ?_
    refine gQ (zab zl8 rfl) ?_
    refine gQ (zah 2 tf3 rfl rfl rfl) ?_
    refine gQ (zdv rfl rfl) ?_
    refine gQ (zab znc rfl) ?_
    refine gQ (zah 2 tf3 rfl rfl rfl) ?_
    refine gQ (zab zl9 rfl) ?_
    refine gQ (zah 2 tf3 rfl rfl rfl) ?_
    refine gQ (zdv rfl rfl) ?_
    refine gQ (zfw rfl rfl) ?_
    refine gQ (zdv rfl rfl) ?_
    refine gQ (zab zsM rfl) ?_
    refine zaA 1 tf2 rfl rfl (vs:=[_]) rfl rfl rfl rfl rfl ?_
    refine zag (zae (T':=[(4,_),(5,_),(6,_),(7,_),(9,_)]) ⟨rfl,rfl,rfl,rfl,rfl,trivial⟩ ?_)
    refine za2 (R':=Box b9 [.int .i64 (zcJ (zaN S V n).s (zar S V n).s),.int .i64 (zca (zaN S V n).s (zar S V n).s),.int .i64 (zdl (zaN S V n).s (zar S V n).s),.int .i64 0,.int .i64 0,.int .i64 0,.int .i64 0] 77) 1 rfl (fun B w hA=>by rw [←zpH hF hsp,←g4,←g5]; exact hA) ?_
    refine zac (zaa (gk_y rfl rfl (zat 3 tf94 rfl rfl (vs:=[_,_,_,_]) rfl rfl) ?_))
    refine gQ (zat 2 tf41 rfl rfl (vs:=[_,_,_,_,_,_,_,_,_,_,_,_,_,_,_,_,_,_,_,_]) rfl rfl) ?_
    refine zaG rfl rfl (zbm en66 rfl (fun w hw=>zpb _ _ (zaN S V n).s _ _ (zar S V n).s w (Rd.has (Has.rd (zfL hwo)) hw) hF hsp)) fun p102=>?_
    refine gA ?_
    refine zag (zae (T':=[(4,_),(5,_),(6,_),(7,_),(9,_),(16,_)]) ⟨rfl,rfl,rfl,rfl,rfl,rfl,trivial⟩ ?_)
    refine zac (zac (zaa (gM ?_)))
    refine gQ (zaV (Tryz.underlying73) rfl) ?_
    refine gM ?_
    refine zag (zae (T':=[(4,_),(5,_),(6,_),(7,_),(9,_),(16,_),(103,_),(104,_),(105,_)]) ⟨rfl,rfl,rfl,rfl,rfl,rfl,rfl,rfl,rfl,trivial⟩ ?_)
    refine zas ?_
    refine zbf (X:=Int×Int) (fun⟨k,tp⟩=>[(4,.pointer (some ⟨b4,0,none⟩)),(5,.int .i64 0),(6,.pointer (some ⟨b6,0,none⟩)),(7,.pointer (some ⟨b7,0,none⟩)),(9,.pointer (some ⟨b9,0,none⟩)),(16,.slice p102.1 (zbi (zaN S V n).s (zar S V n).s).length p102.2),(103,.slice p102.1 (zbi (zaN S V n).s (zar S V n).s).length p102.2),(104,.int .i64 ((zbi (zaN S V n).s (zar S V n).s).length:Int)),(105,.int .i64 k)]) (fun⟨k,tp⟩=>[Row p102.1 3 p102.2 87 zcm (zbi (zaN S V n).s (zar S V n).s),Row p33.1 2 p33.2 49 zbq (zaj ((zar S V n).s)),Box b9 [.int .i64 (zcJ (zaN S V n).s (zar S V n).s),.int .i64 (zca (zaN S V n).s (zar S V n).s),.int .i64 (zdl (zaN S V n).s (zar S V n).s),.int .i64 tp,.int .i64 0,.int .i64 0,.int .i64 0] 77,Box b7 [.string (zar S V n).s.name,.int .i64 ((zar S V n).s.base),.int .i64 ((zar S V n).s.batter),.int .i64 ((zar S V n).s.height),.int .i64 ((zar S V n).s.skin),.slice (zar S V n).a (zar S V n).s.heights.length (zar S V n).cap,.int .i64 ((zar S V n).s.least),.int .i64 ((zar S V n).s.lap),.int .i64 ((zar S V n).s.run),.int .i64 ((zar S V n).s.every),.int .i64 ((zar S V n).s.at_),.int .i64 ((zar S V n).s.footing),.int .i64 ((zar S V n).s.spread),.int .u8 (zar S V n).s.cope,.int .i64 ((zar S V n).s.tall),.int .i64 ((zar S V n).s.short),.int .i64 ((zar S V n).s.thick),.int .i64 ((zar S V n).s.low),.int .i64 ((zar S V n).s.high),.int .i64 ((zar S V n).s.rood)] 41,Box b6 [.string (zaN S V n).s.name,.string (zaN S V n).s.sheet,.int .i64 ((zaN S V n).s.length),.slice (zaN S V n).a (zaN S V n).s.opens.length (zaN S V n).cap] 94,Box b4 [.int .i64 0,.int .i64 0,.int .i64 0,.int .i64 0,.int .i64 0,.int .i64 0,.int .i64 0] 77,Box b2 [.slice a S.length cap,.slice b V.length bcap] 31]) (fun⟨k,tp⟩=>(0≤k∧k≤(zbi (zaN S V n).s (zar S V n).s).length∧0≤tp∧tp+topS (zar S V n).s ((zbi (zaN S V n).s (zar S V n).s).drop k.toNat)=topL (zaN S V n).s (zar S V n).s)) (fun⟨k,tp⟩=>((zbi (zaN S V n).s (zar S V n).s).length - k).toNat) (0,0) ⟨rfl,rfl,rfl,rfl,rfl,rfl,rfl,rfl,rfl,trivial⟩ rfl ?_ ?_
    ·exact⟨by omega,by omega,by omega,Int.zero_add _⟩
    ·rintro ⟨k,tp⟩ hI
     obtain⟨u0,u1,u2,u3⟩:=hI
     refine zac (zaa (gk_y rfl rfl (zbw rfl rfl) ?_))
     refine zag (zae (T':=[(4,_),(5,_),(6,_),(7,_),(9,_),(16,_),(103,_),(104,_),(105,_),(106,_)]) ⟨rfl,rfl,rfl,rfl,rfl,rfl,rfl,rfl,rfl,rfl,trivial⟩ ?_)
     refine zac (zap rfl (fun hc106=>?_) (fun hc106=>?_))
     ·have hc106:=of_decide_eq_true hc106
      have hkm:=za0 (l:=(zbi (zaN S V n).s (zar S V n).s)) (i:=k.toNat) (by omega)
      have htd:=zlJ (s:=(zar S V n).s) u0 hc106
      have htr:=znX (v:=(zaN S V n).s) hsp (k+1).toNat
      have hti:=(zkv hsp hkm).2
      refine zaq (zac (zas ?_))
      refine zac (zaa (gk_y rfl rfl (zaE se73 rfl rfl (fun _ hw=>(zam zbc (hw.has (p:=0) rfl))) (by omega) (by omega)) ?_))
      refine gQ (zbv (vs:=[_,_,_]) tf87 rfl (fun _ hw=>(zam zbc (hw.has (p:=0) rfl))) (by omega) (by omega) rfl) ?_
      refine zaG rfl rfl (zaL tf87 (zs:=[_,_,_]) rfl) fun b18=>?_
      refine zaA 0 tf87 rfl rfl (vs:=[_,_,_]) rfl rfl rfl rfl rfl ?_
      refine zag (zae (T':=[(4,_),(5,_),(6,_),(7,_),(9,_),(16,_),(18,_),(103,_),(104,_),(105,_)]) ⟨rfl,rfl,rfl,rfl,rfl,rfl,rfl,rfl,rfl,rfl,trivial⟩ ?_)
      refine zbb 14 (fun _=>mixed) (by kernel_rfl) ?_
      refine ph_y (zab zpC rfl) ?_
      refine ph_y (zah 3 tf2 rfl rfl rfl) ?_
      refine ph_y (zab zsT rfl) ?_
      refine ph_y (zah 0 tf3 rfl rfl rfl) ?_
      refine ph_y (zab zsU rfl) ?_
      refine ph_y (zah 0 tf3 rfl rfl rfl) ?_
      refine ph_y (zdv rfl rfl) ?_
      refine ph_y (zat 4 tf41 rfl rfl (vs:=[_,_,_,_,_,_,_,_,_,_,_,_,_,_,_,_,_,_,_,_]) rfl rfl) ?_
      refine ph_y (zab zep rfl) ?_
      refine ph_y (zah 4 tf3 rfl rfl rfl) ?_
      refine ph_y (zaJ en50 rfl (fun w hw=>zkA ((zar S V n).a) ((zar S V n).cap) ((zar S V n).s) _ w)) ?_
      refine ph_y (zdv rfl rfl) ?_
      refine ph_y (zfw rfl rfl) ?_
      refine ph_y (zab zpC rfl) ?_
      refine zae (T':=[(4,_),(5,_),(6,_),(7,_),(9,_),(16,_),(103,_),(104,_),(105,_),(121,_),(122,_)]) ⟨rfl,rfl,rfl,rfl,rfl,rfl,rfl,rfl,rfl,rfl,rfl,trivial⟩ ?_
      refine zaA 3 tf2 rfl rfl (vs:=[_]) rfl rfl rfl rfl rfl ?_
      refine zag (zae (T':=[(4,_),(5,_),(6,_),(7,_),(9,_),(16,_),(103,_),(104,_),(105,_)]) ⟨rfl,rfl,rfl,rfl,rfl,rfl,rfl,rfl,rfl,trivial⟩ ?_)
      refine za2 (R':=Box b9 [.int .i64 (zcJ (zaN S V n).s (zar S V n).s),.int .i64 (zca (zaN S V n).s (zar S V n).s),.int .i64 (zdl (zaN S V n).s (zar S V n).s),.int .i64 (tp+topF (zar S V n).s ((zbi (zaN S V n).s (zar S V n).s).getD k.toNat default)),.int .i64 0,.int .i64 0,.int .i64 0] 77) 3 rfl (fun B w hA=>by rw [←ztb (s:=(zar S V n).s) hsp hkm u2 (by omega)]; exact hA) ?_
      refine zaa (gk_y rfl rfl (zaY rfl rfl (by omega) (by omega)) ?_)
      refine gM ?_
      refine zag (zae (T':=[(4,_),(5,_),(6,_),(7,_),(9,_),(16,_),(103,_),(104,_),(105,_)]) ⟨rfl,rfl,rfl,rfl,rfl,rfl,rfl,rfl,rfl,trivial⟩ ?_)
      refine zaK 0 rfl ?_
      exact za1 (k+1,tp+topF (zar S V n).s ((zbi (zaN S V n).s (zar S V n).s).getD k.toNat default)) ⟨rfl,rfl,rfl,rfl,rfl,rfl,rfl,rfl,rfl,trivial⟩ rfl ⟨by omega,by omega,by omega,by omega⟩ (by simp only []; omega)
     ·have hc106:=of_decide_eq_false hc106
      rw [zlI hc106,Int.add_zero] at u3
      refine za8 rfl ?_
      refine zac (zaa (gk_y rfl rfl (zat 4 tf94 rfl rfl (vs:=[_,_,_,_]) rfl rfl) ?_))
      refine gQ (zat 3 tf41 rfl rfl (vs:=[_,_,_,_,_,_,_,_,_,_,_,_,_,_,_,_,_,_,_,_]) rfl rfl) ?_
      refine zaG rfl rfl (zbm en65 rfl (fun w hw=>zjx _ _ (zaN S V n).s _ _ (zar S V n).s w (Rd.has (Has.rd (zfL hwo)) hw) (Rd.has (Has.rd (zhG hsh)) hw) hF hsp)) fun p127=>?_
      refine gM ?_
      refine gQ (zaB rfl rfl) ?_
      refine gQ (zaB rfl rfl) ?_
      refine gA ?_
      refine gA ?_
      refine zag (zae (T':=[(4,_),(5,_),(6,_),(7,_),(9,_),(16,_),(20,_)]) ⟨rfl,rfl,rfl,rfl,rfl,rfl,rfl,trivial⟩ ?_)
      refine zac (zao 3 rfl ?_)
      refine zpM [Box b9 [.int .i64 (zcJ (zaN S V n).s (zar S V n).s),.int .i64 (zca (zaN S V n).s (zar S V n).s),.int .i64 (zdl (zaN S V n).s (zar S V n).s),.int .i64 tp,.int .i64 0,.int .i64 0,.int .i64 0] 77] (ch []) 1000 16 [0,1,0,4,0,16,48,0,128,496,3,1027,3087,7183,16383,32767] rfl (fun _=>mixed) (by kernel_rfl) (zjK _ trivial) ?_
      refine zdq (fun ρ=>zaf rfl) (fun ρ ρ' h=>by rfl) ?_
      refine zdq (fun ρ=>zaV (Tryz.underlying35) rfl) (fun ρ ρ' h=>by rfl) ?_
      refine zdq (fun ρ=>zaf rfl) (fun ρ ρ' h=>by rfl) ?_
      refine zdq (fun ρ=>zaV (Tryz.underlying73) rfl) (fun ρ ρ' h=>by rfl) ?_
      refine zdq (fun ρ=>zab zgo rfl) (fun ρ ρ' h=>by rfl) ?_
      refine zdq (fun ρ=>zah 4 tf3 rfl rfl rfl) (fun ρ ρ' h=>by rfl) ?_
      refine zdq (fun ρ=>zq0 rfl rfl (by omega) (by omega)) (fun ρ ρ' h=>by rfl) ?_
      refine zdq (fun ρ=>zab zmb rfl) (fun ρ ρ' h=>by rfl) ?_
      refine zdq (fun ρ=>zah 3 tf3 rfl rfl rfl) (fun ρ ρ' h=>by rfl) ?_
      refine zdq (fun ρ=>zoI rfl rfl (by have:=hnm.rood; omega)) (fun ρ ρ' h=>by rfl) ?_
      refine zdq (fun ρ=>zab zsN rfl) (fun ρ ρ' h=>by rfl) ?_
      refine zjr (R:=fun ρ=>Box b9 [.int .i64 (zcJ (zaN S V n).s (zar S V n).s),.int .i64 (zca (zaN S V n).s (zar S V n).s),.int .i64 (zdl (zaN S V n).s (zar S V n).s),.int .i64 tp,.int .i64 0,.int .i64 0,.int .i64 0] 77) (A:=fun ρ=>Box b9 [.int .i64 (zcJ (zaN S V n).s (zar S V n).s),.int .i64 (zca (zaN S V n).s (zar S V n).s),.int .i64 (zdl (zaN S V n).s (zar S V n).s),.int .i64 tp,.int .i64 ((thrL (zaN S V n).s (zar S V n).s).length:Int),.int .i64 0,.int .i64 0] 77) 1000 rfl (by kernel_rfl) (fun _=>by kernel_rfl) (fun ρ=>zex tf3 rfl rfl (vs:=[_]) rfl rfl rfl rfl rfl) (fun ρ ρ' h=>by rfl) ?_
      refine zdq (fun ρ=>zab zsO rfl) (fun ρ ρ' h=>by rfl) ?_
      refine zjr (R:=fun ρ=>Box b9 [.int .i64 (zcJ (zaN S V n).s (zar S V n).s),.int .i64 (zca (zaN S V n).s (zar S V n).s),.int .i64 (zdl (zaN S V n).s (zar S V n).s),.int .i64 tp,.int .i64 ((thrL (zaN S V n).s (zar S V n).s).length:Int),.int .i64 0,.int .i64 0] 77) (A:=fun ρ=>Box b9 [.int .i64 (zcJ (zaN S V n).s (zar S V n).s),.int .i64 (zca (zaN S V n).s (zar S V n).s),.int .i64 (zdl (zaN S V n).s (zar S V n).s),.int .i64 tp,.int .i64 ((thrL (zaN S V n).s (zar S V n).s).length:Int),.int .i64 ((zbi (zaN S V n).s (zar S V n).s).length:Int),.int .i64 0] 77) 1000 rfl (by kernel_rfl) (fun _=>by kernel_rfl) (fun ρ=>zex tf3 rfl rfl (vs:=[_]) rfl rfl rfl rfl rfl) (fun ρ ρ' h=>by rfl) ?_
      refine zdq (fun ρ=>zab zpD rfl) (fun ρ ρ' h=>by rfl) ?_
      refine zjr (R:=fun ρ=>Box b9 [.int .i64 (zcJ (zaN S V n).s (zar S V n).s),.int .i64 (zca (zaN S V n).s (zar S V n).s),.int .i64 (zdl (zaN S V n).s (zar S V n).s),.int .i64 tp,.int .i64 ((thrL (zaN S V n).s (zar S V n).s).length:Int),.int .i64 ((zbi (zaN S V n).s (zar S V n).s).length:Int),.int .i64 0] 77) (A:=fun ρ=>Box b9 [.int .i64 (zcJ (zaN S V n).s (zar S V n).s),.int .i64 (zca (zaN S V n).s (zar S V n).s),.int .i64 (zdl (zaN S V n).s (zar S V n).s),.int .i64 tp,.int .i64 ((thrL (zaN S V n).s (zar S V n).s).length:Int),.int .i64 ((zbi (zaN S V n).s (zar S V n).s).length:Int),.int .i64 (IntKind.i64.wrap (Int.tdiv (100*((zaN S V n).s.length)) ((zar S V n).s.rood)))] 77) 1000 rfl (by kernel_rfl) (fun _=>by kernel_rfl) (fun ρ=>zex tf3 rfl rfl (vs:=[_]) rfl rfl rfl rfl rfl) (fun ρ ρ' h=>by rfl) ?_
      refine fun ρ=>zag (zpT (T':=[(4,.pointer (some ⟨b4,0,none⟩)),(5,.int .i64 0),(9,.pointer (some ⟨b9,0,none⟩))]) (H':=[Box b9 [.int .i64 (zcJ (zaN S V n).s (zar S V n).s),.int .i64 (zca (zaN S V n).s (zar S V n).s),.int .i64 (zdl (zaN S V n).s (zar S V n).s),.int .i64 tp,.int .i64 ((thrL (zaN S V n).s (zar S V n).s).length:Int),.int .i64 ((zbi (zaN S V n).s (zar S V n).s).length:Int),.int .i64 (IntKind.i64.wrap (Int.tdiv (100*((zaN S V n).s.length)) ((zar S V n).s.rood)))] 77,Row p127.1 1 p127.2 3 Go.Stn.encI (thrL (zaN S V n).s (zar S V n).s),Row p102.1 3 p102.2 87 zcm (zbi (zaN S V n).s (zar S V n).s),Row p33.1 2 p33.2 49 zbq (zaj ((zar S V n).s)),Box b7 [.string (zar S V n).s.name,.int .i64 ((zar S V n).s.base),.int .i64 ((zar S V n).s.batter),.int .i64 ((zar S V n).s.height),.int .i64 ((zar S V n).s.skin),.slice (zar S V n).a (zar S V n).s.heights.length (zar S V n).cap,.int .i64 ((zar S V n).s.least),.int .i64 ((zar S V n).s.lap),.int .i64 ((zar S V n).s.run),.int .i64 ((zar S V n).s.every),.int .i64 ((zar S V n).s.at_),.int .i64 ((zar S V n).s.footing),.int .i64 ((zar S V n).s.spread),.int .u8 (zar S V n).s.cope,.int .i64 ((zar S V n).s.tall),.int .i64 ((zar S V n).s.short),.int .i64 ((zar S V n).s.thick),.int .i64 ((zar S V n).s.low),.int .i64 ((zar S V n).s.high),.int .i64 ((zar S V n).s.rood)] 41,Box b6 [.string (zaN S V n).s.name,.string (zaN S V n).s.sheet,.int .i64 ((zaN S V n).s.length),.slice (zaN S V n).a (zaN S V n).s.opens.length (zaN S V n).cap] 94,Box b4 [.int .i64 0,.int .i64 0,.int .i64 0,.int .i64 0,.int .i64 0,.int .i64 0,.int .i64 0] 77,Box b2 [.slice a S.length cap,.slice b V.length bcap] 31]) ⟨rfl,rfl,rfl,trivial⟩ rfl ?_)
      refine za2 (R':=Box b9 [.int .i64 (zcJ (zaN S V n).s (zar S V n).s),.int .i64 (zca (zaN S V n).s (zar S V n).s),.int .i64 (zdl (zaN S V n).s (zar S V n).s),.int .i64 (topL (zaN S V n).s (zar S V n).s),.int .i64 ((thrL (zaN S V n).s (zar S V n).s).length:Int),.int .i64 ((zbi (zaN S V n).s (zar S V n).s).length:Int),.int .i64 (zlt (zaN S V n).s (zar S V n).s)] 77) 0 rfl (fun B w hA=>by rw [←zqD hF hsp,←u3]; exact hA) ?_
      refine zac (zaa (gk_y rfl rfl (zat 0 tf77 rfl rfl (vs:=[_,_,_,_,_,_,_]) rfl rfl) ?_))
      refine zaA 6 tf77 rfl rfl (vs:=[_,_,_,_,_,_,_]) rfl rfl rfl rfl rfl ?_
      refine gA ?_
      refine zag (zae (T':=[(4,_),(5,_)]) ⟨rfl,rfl,trivial⟩ ?_)
      refine zaw (zay (zc2 rfl (zbU (i:=6) (vs:=[_,_,_,_,_,_,_]) tf77 rfl rfl rfl rfl) (zau rfl)) ?_)
      rw [e2,hE] <;> rfl
end Go.Proofs.YtdcfcfhmkfkgmaaGreatDoor
namespace Go.Proofs.YtdcfcfhmkfkgmaaGreatDoor
open Go.K Go.Stn Go.Pln Go.RowKit
theorem zjk {c:Cx} {ds:List Deferred} {T:List (Nat×Value)} {H:List Res} {K:Act→World→Prop} {y:PTy} {ra:Option Addr} {rc:Nat} {S:List ShC} {rb:Option Addr} {rd:Nat} {V:List WlC} {q:Plan}
  (h:S.map (·.s)=q.S→V.map (·.s)=q.V→GK c ds K T (Row ra 20 rc y.s zbH S :: Go.K.Rows (rowH y.i) S :: Row rb 4 rd y.w zbS V :: Go.K.Rows (rowO y.o) V :: H)):GK c ds K T (PlR y ((ra,rc,S),(rb,rd,V)) q :: H):=by
 intro a w ha hw
 obtain⟨hb,B,hB,⟨h1,h2,h3⟩,hr⟩:=hw
 exact h h1 h2 a w ha (Hp.split (L:=[_,_,_,_]) ⟨hb,B,hB,h3,hr⟩)
theorem zp7 {α β:Type} {f:α→β} {l:List α} {x:β} (h:l.map f=[x]):∃ y,l=[y]∧f y=x:=by
 cases l with
 | nil=>cases h
 | cons y r=>
  cases r with
  | nil=>rw [List.map_cons,List.map_nil,List.cons.injEq] at h; exact⟨y,rfl,h.1⟩
  | cons z t=>rw [List.map_cons,List.map_cons] at h; cases h
section
variable {z0:ShC} {v0:WlC} (hz:z0.s=dSh) (hv:v0.s=dWl)
include hz hv
theorem zgd:zb6 [z0] [v0] (⟨#[110,111,114,116,104]⟩:ByteArray)=0:=by
 obtain⟨s,a,c⟩:=z0; obtain⟨v,b,d⟩:=v0
 simp only at hz hv; subst hz hv
 kernel_rfl
theorem zsw:zaN [z0] [v0] (⟨#[110,111,114,116,104]⟩:ByteArray)=v0:=by
 rw [zhF (zgd hz hv)]
 obtain⟨s,a,c⟩:=z0; obtain⟨v,b,d⟩:=v0
 simp only at hz hv; subst hz hv
 kernel_rfl
theorem zqX:zar [z0] [v0] (⟨#[110,111,114,116,104]⟩:ByteArray)=z0:=by
 rw [zhE (zgd hz hv)]
 obtain⟨s,a,c⟩:=z0; obtain⟨v,b,d⟩:=v0
 simp only at hz hv; subst hz hv
 kernel_rfl
end
theorem zgj:zaj dSh=[⟨0,200⟩,⟨200,380⟩,⟨380,560⟩,⟨560,740⟩,⟨740,920⟩,⟨920,1100⟩,⟨1100,1200⟩]:=by kernel_rfl
theorem zty:zbg dWl ⟨200,380⟩=[⟨0,1000⟩,⟨1250,3000⟩]:=by
 have h1:dWl.opens.filter (zgu ⟨200,380⟩)=[dOp]:=by kernel_rfl
 have h2:dWl.length=3000:=by kernel_rfl
 unfold zbg zcW
 rw [h1,h2]
 have hf:∀ x,zcH [dOp] x=true↔¬ (1000≤x∧x < 1250):=fun x=>by
  rw [zdU]
  exact⟨fun h hx=>h dOp (List.mem_singleton.2 rfl) ⟨hx.1,by show x < 1000+250; omega⟩,fun h o ho hx=>by
   rw [List.mem_singleton.1 ho] at hx
   have h1:(1000:Int)≤x:=hx.1
   have h2:x < 1000+250:=hx.2
   omega⟩
 have hn:∀ x,zcH [dOp] x=false↔1000≤x∧x < 1250:=fun x=>by
  cases e:zcH [dOp] x with
  | true=>have:=(hf x).1 e; simp; omega
  | false=>exact⟨fun _=>Classical.byContradiction fun h=>(by rw [(hf x).2 h] at e; cases e),fun _=>rfl⟩
 have hR:Runs (zcH [dOp]) 3000 0 [⟨0,1000⟩,⟨1250,3000⟩]:=⟨Int.le_refl _,by decide,by decide,fun x h1 h2=>by simp only at h2; omega,fun x h1 h2=>(hf x).2 (by simp only at h2; omega),.inr ((hn _).2 (by decide)),by decide,by decide,by decide,fun x h1 h2=>(hn x).2 ⟨h1,h2⟩,fun x h1 h2=>(hf x).2 (by simp only at h1; omega),.inl rfl,fun x h1 h2=>by simp only at h1; omega⟩
 exact(zjF (by decide) hR).symm
theorem znk (x:Int):zcH [] x=true:=rfl
theorem ztz:zbg dWl ⟨560,740⟩=[⟨0,3000⟩]:=by
 have h1:dWl.opens.filter (zgu ⟨560,740⟩)=[]:=by kernel_rfl
 have h2:dWl.length=3000:=by kernel_rfl
 unfold zbg zcW
 rw [h1,h2]
 exact(zjF (by decide) (znO (by decide) fun x _ _=>znk x)).symm
theorem zwy:zbK dWl dSh=[⟨0,3000⟩]:=by
 have h1:dWl.opens.filter (zj4 dSh.height)=[]:=by kernel_rfl
 have h2:dWl.length=3000:=by kernel_rfl
 unfold zbK zcW
 rw [h1,h2]
 exact(zjF (by decide) (znO (by decide) fun x _ _=>znk x)).symm
theorem zwx:thrL dWl dSh=[450,1350,2250]:=by
 have h1:zi3 dSh=false:=by kernel_rfl
 have h2:thrI dSh=3:=by kernel_rfl
 unfold thrL
 rw [if_neg (by rw [h1]; exact Bool.false_ne_true),h2,zgj]
 show thrX (zbg dWl ⟨560,740⟩) dWl.length dSh.every (dSh.every.tdiv 2)=_
 rw [ztz]
 kernel_rfl
theorem ztB:zi2 dSh=3:=by kernel_rfl
theorem zvk:(zdz dWl dSh).roods=50:=by kernel_rfl
theorem ztA:(zbi dWl dSh).length=20∧(zbi dWl dSh).getD 19 default=⟨2850,150,200⟩:=by
 have h1:¬ dSh.cope=0:=by decide +kernel
 unfold zbi
 rw [if_neg h1,zwy]
 exact⟨by kernel_rfl,by kernel_rfl⟩
section
variable {z0:ShC} {v0:WlC} (hz:z0.s=dSh) (hv:v0.s=dWl)
include hz hv
theorem zuQ:zhJ [z0] [v0] (⟨#[110,111,114,116,104]⟩:ByteArray) 1=0∧ziX [z0] [v0] (⟨#[110,111,114,116,104]⟩:ByteArray) 1=[⟨0,1000⟩,⟨1250,3000⟩]:=by
 have hE:=zgd hz hv
 have hk:¬ ((1:Int) < 0∨((zaj (zar [z0] [v0] (⟨#[110,111,114,116,104]⟩:ByteArray)).s).length:Int)≤1):=by
  rw [zqX hz hv,hz,zgj]; decide
 obtain⟨h1,h2⟩:=zmT hE hk
 refine⟨h1,?_⟩
 rw [h2,zsw hz hv,zqX hz hv,hz,hv,zgj]
 exact zty
theorem zwp:ziJ [z0] [v0] (⟨#[110,111,114,116,104]⟩:ByteArray)=3∧zei [z0] [v0] (⟨#[110,111,114,116,104]⟩:ByteArray)=[450,1350,2250]:=by
 have hE:=zgd hz hv
 unfold ziJ zei
 rw [if_pos hE,if_pos hE,zsw hz hv,zqX hz hv,hz,hv]
 exact⟨ztB,zwx⟩
theorem zsu:(zcF [z0] [v0] (⟨#[110,111,114,116,104]⟩:ByteArray)).length=20∧(zcF [z0] [v0] (⟨#[110,111,114,116,104]⟩:ByteArray)).getD 19 default=⟨2850,150,200⟩:=by
 have hE:=zgd hz hv
 unfold zcF
 rw [if_pos hE,zsw hz hv,zqX hz hv,hz,hv]
 exact ztA
theorem zuR:(zcx [z0] [v0] (⟨#[110,111,114,116,104]⟩:ByteArray)).roods=50:=by
 have hE:=zgd hz hv
 unfold zcx
 rw [if_pos hE,zsw hz hv,zqX hz hv,hz,hv]
 exact zvk
end
section
variable {z0:ShC} (hz:z0.s=dSh)
include hz
theorem zoE:zfC z0.s=[⟨0,200⟩,⟨200,380⟩,⟨380,560⟩,⟨560,740⟩,⟨740,920⟩,⟨920,1100⟩,⟨1100,1200⟩]∧zcX z0.s=0:=by
 rw [hz]
 exact⟨(if_pos zpj).trans zgj,zda.2 zpj⟩
theorem zn3:zlL z0.s 560=588∧zlK z0.s 560=0:=by
 rw [hz]
 exact⟨by kernel_rfl,by kernel_rfl⟩
theorem zjy:∀ z∈[z0],Small z.s.heights.length:=fun z h=>by rw [List.mem_singleton.1 h,hz]; decide +kernel
end
theorem zn2 {v0:WlC} (hv:v0.s=dWl):∀ z∈[v0],Small z.s.opens.length:=fun z h=>by rw [List.mem_singleton.1 h,hv]; decide +kernel
theorem zsv {v0:WlC} (hv:v0.s=dWl):∀ z∈[v0],∀ o∈z.s.opens,Knd o:=fun z h o ho=>by
 rw [List.mem_singleton.1 h,hv] at ho
 have:o=dOp:=List.mem_singleton.1 (show o∈[dOp] from ho)
 rw [this]; decide
end Go.Proofs.YtdcfcfhmkfkgmaaGreatDoor
namespace Go.Proofs.YtdcfcfhmkfkgmaaGreatDoor
open Go.K Go.Stn Go.Pln Go.RowKit
theorem en17:En Tryz.prog 17:=za7 Tryz.func17 (by kernel_rfl) (by kernel_rfl)
theorem en18:En Tryz.prog 18:=za7 Tryz.func18 (by kernel_rfl) (by kernel_rfl)
theorem en24:En Tryz.prog 24:=za7 Tryz.func24 (by kernel_rfl) (by kernel_rfl)
theorem en26:En Tryz.prog 26:=za7 Tryz.func26 (by kernel_rfl) (by kernel_rfl)
theorem en30:En Tryz.prog 30:=za7 Tryz.func30 (by kernel_rfl) (by kernel_rfl)
theorem en31:En Tryz.prog 31:=za7 Tryz.func31 (by kernel_rfl) (by kernel_rfl)
theorem en32:En Tryz.prog 32:=za7 Tryz.func32 (by kernel_rfl) (by kernel_rfl)
theorem en42:En Tryz.prog 42:=za7 Tryz.func42 (by kernel_rfl) (by kernel_rfl)
set_option maxRecDepth 100000 in
theorem zuV {c:Cx} {ds:List Deferred} {H:List Res} {T:List (Nat×Value)} {d:Option Nat} {ty:TypeId} {ps:String} {af:Array Edge} {g:Option (Nat×Bool)} {x y:Operand} {t':TypeId} {a0 a1 c0 c1:Int}
  (hx:evo T x=some (.agg #[.int .i64 a0,.int .i64 a1])) (hy:evo T y=some (.agg #[.int .i64 c0,.int .i64 c1])) (hP:c.P=Tryz.prog:=by rfl):Y c ds H T ⟨d,.binOp .eql 49 x y t',ty,ps,af,g⟩ (.bool ((decide (a0=c0)&&decide (a1=c1)))):=by
 refine⟨fun a w ha _=>?_⟩
 unfold Yld
 simp only [execOp,ha.eval hx,ha.eval hy]
 rw [hP]
 by_cases h0:a0=c0
 ·subst h0
  by_cases h1:a1=c1
  ·subst h1
   (go_simp; try exact Ext.rfl)
  ·(go_simp; try exact Ext.rfl)
 ·(go_simp; try exact Ext.rfl)
set_option maxRecDepth 100000 in
theorem zuW {c:Cx} {ds:List Deferred} {H:List Res} {T:List (Nat×Value)} {d:Option Nat} {ty:TypeId} {ps:String} {af:Array Edge} {g:Option (Nat×Bool)} {x y:Operand} {t':TypeId} {a0 a1 c0 c1:Int}
  (hx:evo T x=some (.agg #[.int .i64 a0,.int .i64 a1])) (hy:evo T y=some (.agg #[.int .i64 c0,.int .i64 c1])) (hP:c.P=Tryz.prog:=by rfl):Y c ds H T ⟨d,.binOp .eql 69 x y t',ty,ps,af,g⟩ (.bool ((decide (a0=c0)&&decide (a1=c1)))):=by
 refine⟨fun a w ha _=>?_⟩
 unfold Yld
 simp only [execOp,ha.eval hx,ha.eval hy]
 rw [hP]
 by_cases h0:a0=c0
 ·subst h0
  by_cases h1:a1=c1
  ·subst h1
   (go_simp; try exact Ext.rfl)
  ·(go_simp; try exact Ext.rfl)
 ·(go_simp; try exact Ext.rfl)
set_option maxRecDepth 100000 in
theorem zuY {c:Cx} {ds:List Deferred} {H:List Res} {T:List (Nat×Value)} {d:Option Nat} {ty:TypeId} {ps:String} {af:Array Edge} {g:Option (Nat×Bool)} {x y:Operand} {t':TypeId} {a0 a1 a2 c0 c1 c2:Int}
  (hx:evo T x=some (.agg #[.int .i64 a0,.int .i64 a1,.int .i64 a2])) (hy:evo T y=some (.agg #[.int .i64 c0,.int .i64 c1,.int .i64 c2])) (hP:c.P=Tryz.prog:=by rfl):Y c ds H T ⟨d,.binOp .eql 87 x y t',ty,ps,af,g⟩ (.bool ((decide (a0=c0)&&decide (a1=c1)&&decide (a2=c2)))):=by
 refine⟨fun a w ha _=>?_⟩
 unfold Yld
 simp only [execOp,ha.eval hx,ha.eval hy]
 rw [hP]
 by_cases h0:a0=c0
 ·subst h0
  by_cases h1:a1=c1
  ·subst h1
   by_cases h2:a2=c2
   ·subst h2
    (go_simp; try exact Ext.rfl)
   ·(go_simp; try exact Ext.rfl)
  ·(go_simp; try exact Ext.rfl)
 ·(go_simp; try exact Ext.rfl)
theorem zdB {c:Cx} {ds:List Deferred} {H:List Res} {T:List (Nat×Value)} {o:Oper} {b b':Bool} (h:Y c ds H T o (.bool b)) (hb:b=b'):Y c ds H T o (.bool b'):=by subst hb; exact h
set_option maxRecDepth 100000 in
set_option maxHeartbeats 16000000 in
theorem zkw  (w:World) (hmx:Has w (IntV 2)) (hcp:Has w (zaW (some ⟨0,0,none⟩) 1 encS copesW)) (hop:Has w (zaW (some ⟨1,0,none⟩) 1 encS opensW)) :
  Calls Tryz.prog 13 #[] w (Pure (.bool true) w):=by
 refine zan (vs:=[]) Tryz.func13 rfl rfl (Nat.le_of_ble_eq_true rfl) ?_
 refine zac (zaa (gA ?_))
 refine zag (zae (T':=[(0,_)]) ⟨rfl,trivial⟩ ?_)
 refine zac (zaa (gk_y rfl rfl (zaJ en42 rfl (fun w hw=>zvl w)) ?_))
 refine zaG rfl rfl (zbm en24 rfl (fun w hw=>zus daleT w (Rd.has (Has.rd hmx) hw) (Rd.has (Has.rd hcp) hw) (Rd.has (Has.rd hop) hw))) fun p19=>?_
 refine gM ?_
 refine gQ (zaB rfl rfl) ?_
 refine gQ (zaB rfl rfl) ?_
 refine gQ (zaB rfl rfl) ?_
 refine zaG rfl rfl (zaL tf31 (zs:=[_,_]) rfl) fun b1=>?_
 refine zaA 0 tf31 rfl rfl (vs:=[_,_]) rfl rfl rfl rfl rfl ?_
 refine gA ?_
 refine gA ?_
 refine zag (zae (T':=[(0,_),(1,_),(2,_),(3,_)]) ⟨rfl,rfl,rfl,rfl,trivial⟩ ?_)
 refine zao 1 rfl ?_
 obtain⟨⟨ra,rc,S⟩,⟨rb,rd,V⟩⟩:=p19
 refine za2 (R':=PlR yP ((ra,rc,S),(rb,rd,V)) ⟨[dSh],[dWl]⟩) 0 rfl (fun B w hA=>by rw [zgT] at hA; exact hA) ?_
 refine zjk fun hS hV=>?_
 obtain⟨z0,rfl,hz⟩:=zp7 hS
 obtain⟨v0,rfl,hv⟩:=zp7 hV
 have hl1:([z0]:List ShC).length=1:=rfl
 have hl2:([v0]:List WlC).length=1:=rfl
 obtain⟨hcs,hck⟩:=zoE hz
 have hcl:(zfC z0.s).length=7:=by rw [hcs]; rfl
 obtain⟨hbe,hba⟩:=zuQ hz hv
 have hbl:(ziX [z0] [v0] (⟨#[110,111,114,116,104]⟩:ByteArray) 1).length=2:=by rw [hba]; rfl
 obtain⟨hta,htl⟩:=zwp hz hv
 have htn:(zei [z0] [v0] (⟨#[110,111,114,116,104]⟩:ByteArray)).length=3:=by rw [htl]; rfl
 obtain⟨hkl,hka⟩:=zsu hz hv
 have hfe:=zgd hz hv
 refine za2 (R':=Box b1 [.slice ra 1 rc,.slice rb 1 rd] 31) 4 rfl (fun B w hA=>hA) ?_
 refine zae (T':=[(0,_),(1,_),(2,.int .i64 0),(3,.int .i64 0)]) ⟨rfl,rfl,(by rw [zgT]; rfl),(by rw [zgT]; rfl),trivial⟩ ?_
 refine zac (zac (zaa (gM ?_)))
 refine gQ (zcr rfl rfl) ?_
 refine gM ?_
 refine gT (gM ?_)
 refine gT (gk_y rfl rfl (zcr rfl rfl) ?_)
 refine gQ (za5 rfl rfl rfl) ?_
 refine gM ?_
 refine gT (gk_y rfl rfl (zab zeo rfl) ?_)
 refine gT (gk_y rfl rfl (zah 4 tf28 rfl rfl rfl) ?_)
 refine gT (gk_y rfl rfl (zaV (Tryz.underlying28) rfl) ?_)
 refine gT (gk_y rfl rfl (zdB (b':=false) (zcr rfl rfl) (by rfl)) ?_)
 refine gQ (za5 rfl rfl rfl) ?_
 refine gM ?_
 refine gT (gk_y rfl rfl (zab zd7 rfl) ?_)
 refine gT (gk_y rfl rfl (zah 4 tf29 rfl rfl rfl) ?_)
 refine gT (gk_y rfl rfl (zaV (Tryz.underlying29) rfl) ?_)
 refine gT (gk_y rfl rfl (zdB (b':=false) (zcr rfl rfl) (by rfl)) ?_)
 refine gQ (za5 rfl rfl rfl) ?_
 refine zag (zae (T':=[(0,_),(1,_),(40,_)]) ⟨rfl,rfl,rfl,trivial⟩ ?_)
 refine zd8 rfl ?_
 refine zaq (zac (zaa (gk_y rfl rfl (zab zeo rfl) ?_)))
 refine gQ (zah 4 tf28 rfl rfl rfl) ?_
 refine gQ (zaE se28 rfl rfl (fun _ hw=>(zam zbI (hw.has (p:=0) rfl))) (by decide) (by omega)) ?_
 refine gQ (zbv (vs:=[_,_,_,_,_,_,_,_,_,_,_,_,_,_,_,_,_,_,_,_]) tf41 rfl (fun _ hw=>(zam zbI (hw.has (p:=0) rfl))) (by omega) (by omega) rfl) ?_
 refine zaG rfl rfl (zbm en17 rfl (fun w hw=>zoM _ _ z0.s w (zam Go.Stn.encI_ok (zbV (hw.has (p:=1) rfl) (List.mem_singleton.2 rfl))) (zjy hz z0 (List.mem_singleton.2 rfl)))) fun p46=>?_
 refine gM ?_
 refine gQ (zaB rfl rfl) ?_
 refine gQ (zaB rfl rfl) ?_
 refine gA ?_
 refine gA ?_
 refine zag (zae (T':=[(0,_),(1,_),(4,_),(5,_)]) ⟨rfl,rfl,rfl,rfl,trivial⟩ ?_)
 refine zac (zaa (gk_y rfl rfl (zab zeo rfl) ?_))
 refine gQ (zah 5 tf28 rfl rfl rfl) ?_
 refine gQ (zaE se28 rfl rfl (fun _ hw=>(zam zbI (hw.has (p:=1) rfl))) (by decide) (by omega)) ?_
 refine gQ (zbv (vs:=[_,_,_,_,_,_,_,_,_,_,_,_,_,_,_,_,_,_,_,_]) tf41 rfl (fun _ hw=>(zam zbI (hw.has (p:=1) rfl))) (by omega) (by omega) rfl) ?_
 refine gQ (zaJ en18 rfl (fun w hw=>ztc _ _ z0.s 560 w (zam Go.Stn.encI_ok (zbV (hw.has (p:=2) rfl) (List.mem_singleton.2 rfl))) (zjy hz z0 (List.mem_singleton.2 rfl)))) ?_
 refine gM ?_
 refine gQ (zaB rfl rfl) ?_
 refine gQ (zaB rfl rfl) ?_
 refine gA ?_
 refine gA ?_
 refine zag (zae (T':=[(0,_),(1,_),(4,_),(5,_),(6,_),(7,_)]) ⟨rfl,rfl,rfl,rfl,rfl,rfl,trivial⟩ ?_)
 refine zac (zaa (gk_y rfl rfl (zat 5 tf31 rfl rfl (vs:=[_,_]) rfl rfl) ?_))
 refine zaG rfl rfl (zbm en26 rfl (fun w hw=>zu1 _ _ [z0] _ _ [v0] (⟨#[110,111,114,116,104]⟩:ByteArray) 1 w (zam zbI (hw.has (p:=1) rfl)) (show Small 1 by decide) (zcM (hw.has (p:=1) rfl)) (zam zbo (hw.has (p:=3) rfl)) (show Small 1 by decide) (fun z hz2=>zam Go.Stn.encI_ok (zbV (f:=rowH 3) (hw.has (p:=2) rfl) hz2)) (zjy hz) (fun z hz2=>zam encOpn_ok (zbV (f:=rowO 98) (hw.has (p:=4) rfl) hz2)) (zn2 hv) (fun z hz2=>zcM (zbV (f:=rowO 98) (hw.has (p:=4) rfl) hz2)) (zsv hv))) fun p59=>?_
 refine gM ?_
 refine gQ (zaB rfl rfl) ?_
 refine gQ (zaB rfl rfl) ?_
 refine gA ?_
 refine gA ?_
 refine zag (zae (T':=[(0,_),(1,_),(4,_),(5,_),(6,_),(7,_),(8,_),(9,_)]) ⟨rfl,rfl,rfl,rfl,rfl,rfl,rfl,rfl,trivial⟩ ?_)
 refine zac (zaa (gk_y rfl rfl (zat 6 tf31 rfl rfl (vs:=[_,_]) rfl rfl) ?_))
 refine zaG rfl rfl (zbm en30 rfl (fun w hw=>zi4 _ _ [z0] _ _ [v0] (⟨#[110,111,114,116,104]⟩:ByteArray) w (zam zbI (hw.has (p:=2) rfl)) (show Small 1 by decide) (zcM (hw.has (p:=2) rfl)) (zam zbo (hw.has (p:=4) rfl)) (show Small 1 by decide) (fun z hz2=>zam Go.Stn.encI_ok (zbV (f:=rowH 3) (hw.has (p:=3) rfl) hz2)) (zjy hz) (fun z hz2=>zam encOpn_ok (zbV (f:=rowO 98) (hw.has (p:=5) rfl) hz2)) (zn2 hv) (fun z hz2=>zcM (zbV (f:=rowO 98) (hw.has (p:=5) rfl) hz2)) (zsv hv))) fun p64=>?_
 refine gM ?_
 refine gQ (zaB rfl rfl) ?_
 refine gQ (zaB rfl rfl) ?_
 refine gQ (zaB rfl rfl) ?_
 refine gA ?_
 refine gA ?_
 refine gA ?_
 refine zag (zae (T':=[(0,_),(1,_),(4,_),(5,_),(6,_),(7,_),(8,_),(9,_),(10,_),(11,_),(12,_)]) ⟨rfl,rfl,rfl,rfl,rfl,rfl,rfl,rfl,rfl,rfl,rfl,trivial⟩ ?_)
 refine zac (zaa (gk_y rfl rfl (zat 7 tf31 rfl rfl (vs:=[_,_]) rfl rfl) ?_))
 refine zaG rfl rfl (zbm en31 rfl (fun w hw=>zoL _ _ [z0] _ _ [v0] (⟨#[110,111,114,116,104]⟩:ByteArray) w (zam zbI (hw.has (p:=3) rfl)) (show Small 1 by decide) (zcM (hw.has (p:=3) rfl)) (zam zbo (hw.has (p:=5) rfl)) (show Small 1 by decide) (fun z hz2=>zam Go.Stn.encI_ok (zbV (f:=rowH 3) (hw.has (p:=4) rfl) hz2)) (zjy hz) (fun z hz2=>zam encOpn_ok (zbV (f:=rowO 98) (hw.has (p:=6) rfl) hz2)) (zn2 hv) (fun z hz2=>zcM (zbV (f:=rowO 98) (hw.has (p:=6) rfl) hz2)) (zsv hv))) fun p70=>?_
 refine gM ?_
 refine gQ (zaB rfl rfl) ?_
 refine gQ (zaB rfl rfl) ?_
 refine gA ?_
 refine gA ?_
 refine zag (zae (T':=[(0,_),(1,_),(4,_),(5,_),(6,_),(7,_),(8,_),(9,_),(10,_),(11,_),(12,_),(13,_),(14,_)]) ⟨rfl,rfl,rfl,rfl,rfl,rfl,rfl,rfl,rfl,rfl,rfl,rfl,rfl,trivial⟩ ?_)
 refine zac (zaa (gk_y rfl rfl (zat 8 tf31 rfl rfl (vs:=[_,_]) rfl rfl) ?_))
 refine gQ (zaJ en32 rfl (fun w hw=>zsB _ _ [z0] _ _ [v0] (⟨#[110,111,114,116,104]⟩:ByteArray) w (zam zbI (hw.has (p:=4) rfl)) (show Small 1 by decide) (zcM (hw.has (p:=4) rfl)) (zam zbo (hw.has (p:=6) rfl)) (show Small 1 by decide) (fun z hz2=>zam Go.Stn.encI_ok (zbV (f:=rowH 3) (hw.has (p:=5) rfl) hz2)) (zjy hz) (fun z hz2=>zam encOpn_ok (zbV (f:=rowO 98) (hw.has (p:=7) rfl) hz2)) (zn2 hv) (fun z hz2=>zcM (zbV (f:=rowO 98) (hw.has (p:=7) rfl) hz2)) (zsv hv))) ?_
 refine gM ?_
 refine gQ (zaB rfl rfl) ?_
 refine gQ (zaB rfl rfl) ?_
 refine zaG rfl rfl (zaL tf77 (zs:=[_,_,_,_,_,_,_]) rfl) fun b15=>?_
 refine zaA 0 tf77 rfl rfl (vs:=[_,_,_,_,_,_,_]) rfl rfl rfl rfl rfl ?_
 refine gA ?_
 refine zag (zae (T':=[(0,_),(4,_),(5,_),(6,_),(7,_),(8,_),(9,_),(10,_),(11,_),(12,_),(13,_),(14,_),(15,_),(16,_)]) ⟨rfl,rfl,rfl,rfl,rfl,rfl,rfl,rfl,rfl,rfl,rfl,rfl,rfl,rfl,trivial⟩ ?_)
 refine zac (zaa (gM ?_))
 refine gQ (zbQ (zbL rfl rfl) (by exact decide_eq_true hck)) ?_
 refine gM ?_
 refine gT (gM ?_)
 refine gT (gk_y rfl rfl (zaV (Tryz.underlying38) rfl) ?_)
 refine gT (gk_y rfl rfl (zbQ (zbL rfl rfl) (by rw [hcl]; rfl)) ?_)
 refine gQ (za5 rfl rfl rfl) ?_
 refine gM ?_
 refine gT (gM ?_)
 refine gT (gk_y rfl rfl (zaE se38 rfl rfl (fun _ hw=>(zam zax (hw.has (p:=4) rfl))) (by omega) (by omega)) ?_)
 refine gT (gk_y rfl rfl (zbv (vs:=[_,_]) tf49 rfl (fun _ hw=>(zam zax (hw.has (p:=4) rfl))) (by omega) (by omega) rfl) ?_)
 refine gT (gk_y rfl rfl (zaI rfl (zgQ _ _)) ?_)
 refine gT (gk_y rfl rfl (zbQ (zuV rfl rfl) (by rw [hcs]; rfl)) ?_)
 refine gQ (za5 rfl rfl rfl) ?_
 refine gM ?_
 refine gT (gM ?_)
 refine gT (gk_y rfl rfl (zbQ (zbL rfl rfl) (by exact decide_eq_true (zn3 hz).2)) ?_)
 refine gQ (za5 rfl rfl rfl) ?_
 refine gM ?_
 refine gT (gM ?_)
 refine gT (gk_y rfl rfl (zbQ (zbL rfl rfl) (by exact decide_eq_true (zn3 hz).1)) ?_)
 refine gQ (za5 rfl rfl rfl) ?_
 refine gM ?_
 refine gT (gM ?_)
 refine gT (gk_y rfl rfl (zbQ (zbL rfl rfl) (by exact decide_eq_true hbe)) ?_)
 refine gQ (za5 rfl rfl rfl) ?_
 refine gM ?_
 refine gT (gM ?_)
 refine gT (gk_y rfl rfl (zaV (Tryz.underlying59) rfl) ?_)
 refine gT (gk_y rfl rfl (zbQ (zbL rfl rfl) (by rw [hbl]; rfl)) ?_)
 refine gQ (za5 rfl rfl rfl) ?_
 refine gM ?_
 refine gT (gM ?_)
 refine gT (gk_y rfl rfl (zaE se59 rfl rfl (fun _ hw=>(zam zax (hw.has (p:=3) rfl))) (by omega) (by omega)) ?_)
 refine gT (gk_y rfl rfl (zbv (vs:=[_,_]) tf69 rfl (fun _ hw=>(zam zax (hw.has (p:=3) rfl))) (by omega) (by omega) rfl) ?_)
 refine gT (gk_y rfl rfl (zaI rfl (zi7 _ _)) ?_)
 refine gT (gk_y rfl rfl (zbQ (zuW rfl rfl) (by rw [hba]; rfl)) ?_)
 refine gQ (za5 rfl rfl rfl) ?_
 refine gM ?_
 refine gT (gM ?_)
 refine gT (gk_y rfl rfl (zbQ (zbL rfl rfl) (by exact decide_eq_true hfe)) ?_)
 refine gQ (za5 rfl rfl rfl) ?_
 refine gM ?_
 refine gT (gM ?_)
 refine gT (gk_y rfl rfl (zbQ (zbL rfl rfl) (by exact decide_eq_true hta)) ?_)
 refine gQ (za5 rfl rfl rfl) ?_
 refine gM ?_
 refine gT (gM ?_)
 refine gT (gk_y rfl rfl (zaV (Tryz.underlying35) rfl) ?_)
 refine gT (gk_y rfl rfl (zbQ (zbL rfl rfl) (by rw [htn]; rfl)) ?_)
 refine gQ (za5 rfl rfl rfl) ?_
 refine gM ?_
 refine gT (gM ?_)
 refine gT (gk_y rfl rfl (zaE se35 rfl rfl (fun _ hw=>(zam Go.Stn.encI_ok (hw.has (p:=2) rfl))) (by omega) (by omega)) ?_)
 refine gT (gk_y rfl rfl (zcE tf3 rfl (fun _ hw=>(zam Go.Stn.encI_ok (hw.has (p:=2) rfl))) (by omega) (by omega) rfl) ?_)
 refine gT (gk_y rfl rfl (zbQ (zbL rfl rfl) (by rw [htl]; rfl)) ?_)
 refine gQ (za5 rfl rfl rfl) ?_
 refine gM ?_
 refine gT (gM ?_)
 refine gT (gk_y rfl rfl (zbQ (zbL rfl rfl) (by exact decide_eq_true hfe)) ?_)
 refine gQ (za5 rfl rfl rfl) ?_
 refine gM ?_
 refine gT (gM ?_)
 refine gT (gk_y rfl rfl (zaV (Tryz.underlying73) rfl) ?_)
 refine gT (gk_y rfl rfl (zbQ (zbL rfl rfl) (by rw [hkl]; rfl)) ?_)
 refine gQ (za5 rfl rfl rfl) ?_
 refine gM ?_
 refine gT (gM ?_)
 refine gT (gk_y rfl rfl (zaE se73 rfl rfl (fun _ hw=>(zam zbc (hw.has (p:=1) rfl))) (by omega) (by omega)) ?_)
 refine gT (gk_y rfl rfl (zbv (vs:=[_,_,_]) tf87 rfl (fun _ hw=>(zam zbc (hw.has (p:=1) rfl))) (by omega) (by omega) rfl) ?_)
 refine gT (gk_y rfl rfl (zaI rfl (zgg _ _ _)) ?_)
 refine gT (gk_y rfl rfl (zbQ (zuY rfl rfl) (by rw [show(19:Int).toNat=19 from rfl,hka]; rfl)) ?_)
 refine gQ (za5 rfl rfl rfl) ?_
 refine gM ?_
 refine gT (gM ?_)
 refine gT (gk_y rfl rfl (zbQ (zbL rfl rfl) (by exact decide_eq_true hfe)) ?_)
 refine gQ (za5 rfl rfl rfl) ?_
 refine gM ?_
 refine gT (gk_y rfl rfl (zab zpD rfl) ?_)
 refine gT (gk_y rfl rfl (zah 0 tf3 rfl rfl rfl) ?_)
 refine gT (gk_y rfl rfl (zbQ (zbL rfl rfl) (by exact decide_eq_true (zuR hz hv))) ?_)
 refine gQ (za5 rfl rfl rfl) ?_
 refine gA ?_
 refine zag (zae (T':=[(0,_)]) ⟨rfl,trivial⟩ ?_)
 refine zaw (zay (zaC rfl (zau rfl)) ?_)
 rfl
end Go.Proofs.YtdcfcfhmkfkgmaaGreatDoor
namespace Go.Pln
open Go Go.K Go.RowKit Go.Stn
section
variable {S S2:List ShC} {V V2:List WlC}
theorem zj7 {α β:Type} {f:α→β} {l m:List α} (h:m.map f=l.map f):m.length=l.length:=by
 have:=congrArg List.length h
 rwa [List.length_map,List.length_map] at this
theorem zml {α β:Type} {f:α→β} {Q:β→Prop} {l m:List α} (h:m.map f=l.map f) (hq:∀ z∈l,Q (f z)):∀ z∈m,Q (f z):=fun z hz=>by
 have:f z∈l.map f:=by rw [←h]; exact List.mem_map.2 ⟨z,hz,rfl⟩
 obtain⟨y,hy,e⟩:=List.mem_map.1 this
 rw [←e]; exact hq y hy
theorem zxz (h:S2.map (·.s)=S.map (·.s)) (i:Nat):(S2.getD i default).s=(S.getD i default).s:=by
 rw [←zeq (fun z:ShC=>z.s) rfl,h,zeq (fun z:ShC=>z.s) rfl]
theorem zwq (h:V2.map (·.s)=V.map (·.s)) (i:Nat):(V2.getD i default).s=(V.getD i default).s:=by
 rw [←zeq (fun z:WlC=>z.s) rfl,h,zeq (fun z:WlC=>z.s) rfl]
theorem zmQ {α β:Type} {f:α→β} {l m:List α} (h:m.map f=l.map f) (n:Nat) (p:β→Bool):(m.take n).any (fun z=>p (f z))=(l.take n).any (fun z=>p (f z)):=by
 have e:∀ k:List α,(k.take n).any (fun z=>p (f z))=((k.map f).take n).any p:=fun k=>by
  rw [←List.map_take,List.any_map]; rfl
 rw [e,e,h]
theorem zlA (h:S2.map (·.s)=S.map (·.s)) (n:ByteArray):zaS S2 n=zaS S n:=by rw [zeL,zeL,h]
theorem zib (h:S2.map (·.s)=S.map (·.s)) (n:ByteArray):(zav S2 n).s=(zav S n).s:=by rw [zf2,zf2,h]
theorem zow (h:S2.map (·.s)=S.map (·.s)) (i:Nat):shAt S2 i=shAt S i:=by
 unfold shAt
 rw [zxz h i,zmQ h i (fun s:Sht=>s.name.toList == (S.getD i default).s.name.toList)]
theorem zoF (h:S2.map (·.s)=S.map (·.s)) (h2:V2.map (·.s)=V.map (·.s)) (i:Nat):wlAt S2 V2 i=wlAt S V i:=by
 unfold wlAt
 rw [zwq h2 i,zmQ h2 i (fun s:Wll=>s.name.toList == (V.getD i default).s.name.toList),zlA h,zib h]
theorem zmw (h:S2.map (·.s)=S.map (·.s)) (h2:V2.map (·.s)=V.map (·.s)):zc4 S2 V2=zc4 S V:=by
 unfold zc4
 rw [zj7 h,zj7 h2,show shAt S2=shAt S from funext (zow h),show wlAt S2 V2=wlAt S V from funext (zoF h h2)]
theorem zCy (h:S2.map (·.s)=S.map (·.s)) (h2:V2.map (·.s)=V.map (·.s)):zeW S2 V2=zeW S V:=by
 unfold zeW; rw [zmw h h2]
end
end Go.Pln
namespace Go.Proofs.YtdcfcfhmkfkgmaaGreatDoor
open Go.K Go.Stn Go.Pln Go.RowKit
theorem zjv {S:List ShC} {V:List WlC} (h:zoN S V):(∀ z∈S,Small z.s.heights.length)∧(∀ z∈V,Small z.s.opens.length)∧Small V.length∧S.length≤1000000∧V.length≤1000000:=
 ⟨fun z hz=>by have:=(h.sh z hz).1; unfold Small; omega,fun z hz=>by have:=h.wl z hz; unfold Small; omega,by have:=h.lv; unfold Small; omega,by have:=h.ls; omega,by have:=h.lv; omega⟩
structure X2 (S:List ShC) (V:List WlC) (S2:List ShC) (V2:List WlC):Prop where
 ls:S2.length=S.length
 lv:V2.length=V.length
 s1:Small S2.length
 s2:Small V2.length
 s3:∀ z∈S2,Small z.s.heights.length
 s4:∀ z∈V2,Small z.s.opens.length
 kn:∀ z∈V2,∀ o∈z.s.opens,Knd o
theorem zxG {S:List ShC} {V:List WlC} {S2:List ShC} {V2:List WlC} (hsm:zoN S V) (hkn:∀ z∈V,∀ o∈z.s.opens,Knd o) (h:S2.map (·.s)=S.map (·.s)) (h2:V2.map (·.s)=V.map (·.s)):X2 S V S2 V2:=by
 obtain⟨a1,a2,a3,_,_⟩:=zjv hsm
 have l1:=zj7 h; have l2:=zj7 h2
 exact⟨l1,l2,by rw [l1]; have:=hsm.ls; unfold Small; omega,by rw [l2]; exact a3,zml (Q:=fun s:Sht=>Small s.heights.length) h a1,zml (Q:=fun v:Wll=>Small v.opens.length) h2 a2,zml (Q:=fun v:Wll=>∀ o∈v.opens,Knd o) h2 hkn⟩
end Go.Proofs.YtdcfcfhmkfkgmaaGreatDoor
namespace Go.Proofs.YtdcfcfhmkfkgmaaGreatDoor
open Go.K Go.Stn Go.Pln Go.RowKit
theorem en37:En Tryz.prog 37:=za7 Tryz.func37 (by kernel_rfl) (by kernel_rfl)
theorem zCL {S S2:List ShC} {V V2:List WlC} (h:S2.map (·.s)=S.map (·.s)) (h2:V2.map (·.s)=V.map (·.s)):zCh S2 V2=zCh S V:=by
 unfold zCh
 rw [zmw h h2,←zCl,←zCl,h,h2]
theorem zDu {S:List ShC} {V:List WlC} (h:zc4 S V=true):zCh S V=bs (shsT S++wlsT V):=if_pos h
end Go.Proofs.YtdcfcfhmkfkgmaaGreatDoor
namespace Go.Proofs.YtdcfcfhmkfkgmaaGreatDoor
open Go.K Go.Stn Go.Pln Go.RowKit
theorem zzn:∀ (l:List ByteArray) (q q':Plan) (n:Int),OkQ q→zdo q n l=.ok q'→OkQ q'
 | [],q,q',n,hq,h=>by rw [zdo] at h; cases h; exact hq
 | t :: r,q,q',n,hq,h=>by
  rw [zdo] at h
  split at h
  ·exact zzn r q q' _ hq h
  ·cases hl:zcu q t with
   | error k=>rw [hl] at h; cases h
   | ok q2=>rw [hl] at h; exact zzn r q2 q' _ (zrS hq hl) h
theorem zzM (t:ByteArray):OkQ (zgA t).1:=by
 unfold zgA
 split
 ·exact zup
 ·cases hl:zdo ⟨[],[]⟩ 1 (zcb t) with
  | error x=>exact zup
  | ok q=>exact zzn _ _ _ _ zup hl
theorem zzN {t:ByteArray} {S:List ShC} (h:S.map (·.s)=(zgA t).1.S):Small S.length∧∀ z∈S,Small z.s.heights.length:=by
 have hq:=zzM t
 constructor
 ·have:=hq.ls
  rw [←h,List.length_map] at this
  unfold Small; omega
 ·intro z hz
  have:=(zaZ (hq.sh z.s (by rw [←h]; exact List.mem_map_of_mem hz))).len
  unfold Small; omega
theorem zzO {t:ByteArray} {V:List WlC} (h:V.map (·.s)=(zgA t).1.V):Small V.length∧∀ z∈V,Small z.s.opens.length:=by
 have hq:=zzM t
 constructor
 ·have:=hq.lv
  rw [←h,List.length_map] at this
  unfold Small; omega
 ·intro z hz
  have:=(hq.wv z.s (by rw [←h]; exact List.mem_map_of_mem hz)).1
  unfold Small; omega
end Go.Proofs.YtdcfcfhmkfkgmaaGreatDoor
namespace Go.Proofs.YtdcfcfhmkfkgmaaGreatDoor
open Go.K Go.Stn Go.Pln Go.RowKit
theorem en12:En Tryz.prog 12:=za7 Tryz.func12 (by kernel_rfl) (by kernel_rfl)
theorem en13:En Tryz.prog 13:=za7 Tryz.func13 (by kernel_rfl) (by kernel_rfl)
theorem en14:En Tryz.prog 14:=za7 Tryz.func14 (by kernel_rfl) (by kernel_rfl)
theorem en15:En Tryz.prog 15:=za7 Tryz.func15 (by kernel_rfl) (by kernel_rfl)
theorem en23:En Tryz.prog 23:=za7 Tryz.func23 (by kernel_rfl) (by kernel_rfl)
set_option maxRecDepth 100000 in
set_option maxHeartbeats 32000000 in
theorem PlanBack_c (a:Option Addr) (cap:Nat) (S:List ShC) (b:Option Addr) (bcap:Nat) (V:List WlC) (w:World) (hl:Has w (zaW a 20 zbH S)) (hs:Small S.length) (_hcS:S.length≤cap) (hlw:Has w (zaW b 4 zbS V)) (hsw0:V.length≤4398046511104) (hsh:∀ z∈S,Has w (Ints z.a z.s.heights)) (hwo:∀ z∈V,Has w (zaW z.a 5 zba z.s.opens)) (hcpw:∀ z∈V,z.s.opens.length≤z.cap) (hkn:∀ z∈V,∀ o∈z.s.opens,Knd o) (hfS:∀ z∈S,Fits z.s.name.size) (hfV:∀ z∈V,Fits z.s.name.size) (hco:∀ z∈S,0≤z.s.cope) (hmx:Has w (IntV 2)) (hcp:Has w (zaW (some ⟨0,0,none⟩) 1 encS copesW)) (hop:Has w (zaW (some ⟨1,0,none⟩) 1 encS opensW)) (hp10:Has w (VarR 3 zB1)) :
  Calls Tryz.prog 10 #[.agg #[.slice a S.length cap,.slice b V.length bcap]] w (Pure (.bool true) w):=by
 refine zan (vs:=[_]) Tryz.func10 rfl rfl (Nat.le_of_ble_eq_true rfl) ?_
 refine zac (zaa (zaG rfl rfl (za3 (vs:=[_,_]) rfl rfl) fun b1=>?_))
 refine gA ?_
 refine zag (zae (T':=[(1,_),(2,_)]) ⟨rfl,rfl,trivial⟩ ?_)
 refine zac (zac (zaa (gk_y rfl rfl (zat 0 tf25 rfl rfl (vs:=[_,_]) rfl rfl) ?_)))
 refine gQ (zaJ en12 rfl (fun w hw=>zuI _ _ S _ _ V w (Rd.has (Has.rd hl) hw) hs (Rd.has (Has.rd hlw) hw) hsw0 hfS)) ?_
 refine gQ (zbR rfl) ?_
 refine gM ?_
 refine zai rfl rfl rfl rfl (fun hg11=>?_) (fun hg11=>?_)
 ·replace hg11:_=false:=hg11
  try rw [hg11]
  refine gQ (zat 0 tf25 rfl rfl (vs:=[_,_]) rfl rfl) ?_
  have hsm:=zmC (S:=S) (V:=V) (by simpa using hg11)
  obtain⟨hss,hsv,hsw,hS1,hV1⟩:=zjv hsm
  refine gT (gk_y rfl rfl (zaJ en15 rfl (fun w hw=>zsf _ _ S _ _ V w (Rd.has (Has.rd hl) hw) hs (Rd.has (Has.rd hlw) hw) hsw (fun z hz=>(Rd.has (Has.rd (hsh z hz)) hw)) hss (fun z hz=>(Rd.has (Has.rd (hwo z hz)) hw)) hsv hcpw hkn hfS hfV hco)) ?_)
  refine gT (gk_y rfl rfl (zbR rfl) ?_)
  refine gQ (za5 rfl rfl rfl) ?_
  refine zag (zae (T':=[(1,_),(2,_),(15,_)]) ⟨rfl,rfl,rfl,trivial⟩ ?_)
  refine zap rfl (fun hc15=>?_) (fun hc15=>?_)
  ·
   refine zac (zaa (gk_y rfl rfl (zaJ en13 rfl (fun w hw=>zkw w (Rd.has (Has.rd hmx) hw) (Rd.has (Has.rd hcp) hw) (Rd.has (Has.rd hop) hw))) ?_))
   refine gA ?_
   refine zag (zae (T':=[(1,_),(2,_)]) ⟨rfl,rfl,trivial⟩ ?_)
   refine zaw (zay (zaC rfl (zau rfl)) ?_)
   rfl
  ·have hP:zc4 S V=true:=by simpa using hc15
   refine zaq (zac (zaa (gk_y rfl rfl (zat 0 tf25 rfl rfl (vs:=[_,_]) rfl rfl) ?_)))
   refine zaG rfl rfl (zbm en14 rfl (fun w hw=>zue _ _ S _ _ V w (Rd.has (Has.rd hl) hw) hs (Rd.has (Has.rd hlw) hw) hsw (fun z hz=>(Rd.has (Has.rd (hsh z hz)) hw)) hss (fun z hz=>(Rd.has (Has.rd (hwo z hz)) hw)) hsv hS1 hV1)) fun p19=>?_
   obtain⟨⟨ra,rc,S2⟩,⟨rb,rd,V2⟩⟩:=p19
   refine zjk fun hS2 hV2=>?_
   have hS2:S2.map (·.s)=S.map (·.s):=hS2
   have hV2:V2.map (·.s)=V.map (·.s):=hV2
   obtain⟨l1,l2,y1,y2,y3,y4,ykn⟩:=zxG hsm hkn hS2 hV2
   refine gQ (zaJ en37 rfl (fun w hw=>zD1 _ _ S2 _ _ V2 w (zam zbI (hw.has (p:=0) rfl)) y1 (zcM (hw.has (p:=0) rfl)) (zam zbo (hw.has (p:=2) rfl)) y2 (fun z hz2=>zam Go.Stn.encI_ok (zbV (f:=rowH 3) (hw.has (p:=1) rfl) hz2)) y3 (fun z hz2=>zam encOpn_ok (zbV (f:=rowO 98) (hw.has (p:=3) rfl) hz2)) y4 (fun z hz2=>zcM (zbV (f:=rowO 98) (hw.has (p:=3) rfl) hz2)) ykn (Rd.has (Has.rd hp10) hw) (Rd.has (Has.rd hcp) hw) (Rd.has (Has.rd hop) hw))) ?_
   refine gM ?_
   refine gQ (zaB rfl rfl) ?_
   refine gQ (zaB rfl rfl) ?_
   refine gA ?_
   refine gA ?_
   refine zag (zae (T':=[(1,_),(2,_),(3,_),(4,_)]) ⟨rfl,rfl,rfl,rfl,trivial⟩ ?_)
   have hR2:=(zCL hS2 hV2).trans (zDu hP)
   have hC2:zeW S2 V2=0:=by rw [zCy hS2 hV2]; exact if_pos hP
   refine zae (T':=[(1,_),(2,_),(3,.string (bs (shsT S++wlsT V))),(4,_)]) ⟨rfl,rfl,(by exact congrArg (fun s=>some (Value.string s)) hR2),rfl,trivial⟩ ?_
   refine zac (zac (zaa (gM ?_)))
   refine gQ (zdB (b':=false) (zcr rfl rfl) (by rw [hC2]; rfl)) ?_
   refine gM ?_
   refine gT (gM ?_)
   refine gT (gk_y rfl rfl (zeO (Tryz.underlying9) rfl) ?_)
   refine gT (gk_y rfl rfl (zc6 rfl rfl) ?_)
   refine gQ (za5 rfl rfl rfl) ?_
   refine zag (zae (T':=[(1,_),(2,_),(3,_),(4,_),(29,_)]) ⟨rfl,rfl,rfl,rfl,rfl,trivial⟩ ?_)
   refine zap rfl (fun hc29=>?_) (fun hc29=>?_)
   ·
    refine zac (zaa (gM ?_))
    refine gQ (zbQ (zbL rfl rfl) (by rw [hC2]; rfl)) ?_
    refine gM ?_
    refine gT (gk_y rfl rfl (zaJ en13 rfl (fun w hw=>zkw w (Rd.has (Has.rd hmx) hw) (Rd.has (Has.rd hcp) hw) (Rd.has (Has.rd hop) hw))) ?_)
    refine gQ (za5 rfl rfl rfl) ?_
    refine gA ?_
    refine zag (zae (T':=[(1,_),(2,_),(3,_)]) ⟨rfl,rfl,rfl,trivial⟩ ?_)
    refine zaw (zay (zaC rfl (zau rfl)) ?_)
    rfl
   ·have hle:(shsT S++wlsT V).length≤30000:=by have:=of_decide_eq_false hc29; rw [zBL] at this; omega
    refine zaq (zac (zaa (gM ?_)))
    refine gQ (zBK rfl rfl (by simp only [zBL,List.length_cons,List.length_nil]; omega)) ?_
    refine zaG rfl rfl (zbm en24 rfl (fun w hw=>zus ((⟨#[35,32,97,32,112,108,97,110,10,10]⟩:ByteArray)++bs (shsT S++wlsT V)) w (Rd.has (Has.rd hmx) hw) (Rd.has (Has.rd hcp) hw) (Rd.has (Has.rd hop) hw))) fun p38=>?_
    refine gM ?_
    refine gQ (zaB rfl rfl) ?_
    refine gQ (zaB rfl rfl) ?_
    refine gQ (zaB rfl rfl) ?_
    refine zaG rfl rfl (zaL tf31 (zs:=[_,_]) rfl) fun b5=>?_
    refine zaA 0 tf31 rfl rfl (vs:=[_,_]) rfl rfl rfl rfl rfl ?_
    refine gA ?_
    refine gA ?_
    refine zag (zae (T':=[(1,_),(2,_),(5,_),(6,_),(7,_)]) ⟨rfl,rfl,rfl,rfl,rfl,trivial⟩ ?_)
    refine zao 1 rfl ?_
    refine zjk fun hS1 hV1=>?_
    have hpb:=zEL (zDS hP) (by rw [zCl]; exact hle)
    rw [zCl] at hpb
    have hpb:zgA ((⟨#[35,32,97,32,112,108,97,110,10,10]⟩:ByteArray)++bs (shsT S++wlsT V))=_:=hpb
    have hS3:=hS1.trans (congrArg (fun x=>x.1.S) hpb)
    have hV3:=hV1.trans (congrArg (fun x=>x.1.V) hpb)
    refine zac (zaa (gM ?_))
    refine gQ (zbQ (zbL rfl rfl) (by rw [hpb]; rfl)) ?_
    refine gM ?_
    refine gT (gM ?_)
    refine gT (gk_y rfl rfl (zbQ (zbL rfl rfl) (by rw [hpb]; rfl)) ?_)
    refine gQ (za5 rfl rfl rfl) ?_
    refine gM ?_
    refine gT (gk_y rfl rfl (zat 4 tf31 rfl rfl (vs:=[_,_]) rfl rfl) ?_)
    refine gT (gk_y rfl rfl (zat 9 tf25 rfl rfl (vs:=[_,_]) rfl rfl) ?_)
    refine gT (gk_y rfl rfl (zaJ en23 rfl (fun w hw=>zBz p38.1.1 p38.1.2.1 p38.1.2.2 p38.2.1 p38.2.2.1 p38.2.2.2 a cap S b bcap V w (zam zbI (hw.has (p:=0) rfl)) (zzN hS1).1 (zam zbo (hw.has (p:=2) rfl)) (zzO hV1).1 (fun z hz=>zam Go.Stn.encI_ok (zbV (f:=rowH 3) (hw.has (p:=1) rfl) hz)) (zzN hS1).2 (fun z hz=>zam encOpn_ok (zbV (f:=rowO 98) (hw.has (p:=3) rfl) hz)) (zzO hV1).2 (Rd.has (Has.rd hl) hw) (Rd.has (Has.rd hlw) hw) (fun z hz=>(Rd.has (Has.rd (hsh z hz)) hw)) (fun z hz=>(Rd.has (Has.rd (hwo z hz)) hw)) hS3 hV3)) ?_)
    refine gQ (za5 rfl rfl rfl) ?_
    refine gM ?_
    refine gT (gk_y rfl rfl (zaJ en13 rfl (fun w hw=>zkw w (Rd.has (Has.rd hmx) hw) (Rd.has (Has.rd hcp) hw) (Rd.has (Has.rd hop) hw))) ?_)
    refine gQ (za5 rfl rfl rfl) ?_
    refine gA ?_
    refine zag (zae (T':=[(2,_)]) ⟨rfl,trivial⟩ ?_)
    refine zaw (zay (zaC rfl (zau rfl)) ?_)
    rfl
 ·replace hg11:_=true:=hg11
  try rw [hg11]
  refine gF (gF (gk_y rfl rfl (za5 rfl rfl rfl) ?_))
  refine zag (zae (T':=[(1,_),(2,_),(15,_)]) ⟨rfl,rfl,rfl,trivial⟩ ?_)
  refine zdg rfl ?_
  refine zac (zaa (gk_y rfl rfl (zaJ en13 rfl (fun w hw=>zkw w (Rd.has (Has.rd hmx) hw) (Rd.has (Has.rd hcp) hw) (Rd.has (Has.rd hop) hw))) ?_))
  refine gA ?_
  refine zag (zae (T':=[(1,_),(2,_)]) ⟨rfl,rfl,trivial⟩ ?_)
  refine zaw (zay (zaC rfl (zau rfl)) ?_)
  rfl
end Go.Proofs.YtdcfcfhmkfkgmaaGreatDoor
namespace Go.K
open Go Go.Stn Go.ChangeShapes Go.WideShapes Go.ChangeAt Go.WideElems Go.RowKit
theorem zp6 {α:Type} {Q:Nat→α→Prop}:∀ n,(∀ i,i < n→∃ x,Q i x)→∃ l:List α,l.length=n∧∀ i x,l[i]?=some x→Q i x
 | 0,_=>⟨[],rfl,fun i x h=>by simp at h⟩
 | n+1,h=>by
  obtain⟨l,hl,hq⟩:=zp6 n (fun i hi=>h i (by omega))
  obtain⟨x,hx⟩:=h n (by omega)
  refine⟨l++[x],by simp [hl],fun i y hy=>?_⟩
  rcases Nat.lt_or_ge i n with hi | hi
  ·rw [List.getElem?_append_left (by omega)] at hy; exact hq i y hy
  ·rw [List.getElem?_append_right (by omega),hl] at hy
   have:i=n:=by
    rcases Nat.lt_or_ge n i with g | g
    ·rw [List.getElem?_eq_none (by simp; omega)] at hy; cases hy
    ·omega
   subst this
   simp at hy
   subst hy; exact hx
section
variable {H:Type} {enc:TypeId×Value→H} {P:Program}
theorem zgK (hl:laidOutB P=true) {W W':World} {sp':Nat→Bool}:∀ (ts:List TypeId) (vs:List Value) (ds:List (DataW H)) (ps:List MemPlace),(∀ t∈ts,P.readableRec t=true∧t < P.types.size) →
  DataW.TrodAll enc P W 0 (fun _=>true) true ts vs ds ps→(∀ p∈ps,W.sameAt W' p)→(∀ p∈ps,sp' p.block=true)→DataW.TrodAll enc P W' 0 sp' true ts vs ds ps
 | [],[],[],ps,_,h,_,_=>h
 | t :: ts,v :: vs,d :: ds,ps,hr,⟨p,q,h1,h2,he⟩,hs,hsp=>by
  subst he
  exact⟨p,q,Trod_stays hl (hr t (List.mem_cons_self ..)).1 (hr t (List.mem_cons_self ..)).2 h1 (fun x hx=>hs x (List.mem_append_left _ hx)) (fun x hx=>hsp x (List.mem_append_left _ hx)),
   zgK hl ts vs ds q (fun x hx=>hr x (List.mem_cons_of_mem _ hx)) h2 (fun x hx=>hs x (List.mem_append_right _ hx)) (fun x hx=>hsp x (List.mem_append_right _ hx)),rfl⟩
 | [],[],_ :: _,_,_,h,_,_=>h.elim
 | [],_ :: _,_,_,_,h,_,_=>h.elim
 | _ :: _,[],_,_,_,h,_,_=>h.elim
 | _ :: _,_ :: _,[],_,_,h,_,_=>h.elim
theorem law_post {f:Func} {s:ChangeSpec} {apart fresh handsOn again:Bool} {W W':World} {args:Array Value} {ds:List (DataW H)} {before:List MemPlace} {tb:TypeId} (hl:laidOutB P=true)
  (hW:DataW.Whole enc P f.params.toList s.vars apart W args.toList ds [] before) (hvars:s.vars=[]) (hread:f.params.toList.all (fun t=>P.readableRec t&&decide (t < P.types.size))=true)
  (hfn:s.fn H (ds++[])={ results:=[.lit (.bool true)],args:=ds }) (hrt:f.resultTypes=#[tb]) (htb:P.underlying tb=some .bool) (hb:Ext W W'):s.post enc P f apart fresh handsOn again W args (.bool true) W':=by
 have hlt:∀ p∈before,p.block < W.heap.size:=fun p hp=>hW.lt p hp
 have hold:∀ p∈before,(fun b=>decide (b < W.heap.size)) p.block=true:=fun p hp=>by simpa using hlt p hp
 have hW0:=hW
 obtain⟨p,q,hA,hV,hpq,hz,hn⟩:=hW
 rw [hvars] at hV
 obtain⟨_,rfl⟩:=trodVars_none hV
 rw [List.append_nil] at hpq
 subst hpq
 have hr:∀ t∈f.params.toList,P.readableRec t=true∧t < P.types.size:=fun t ht=>by
  have:=List.all_eq_true.1 hread t ht
  simpa using this
 have hsame:∀ x∈before,W.sameAt W' x:=fun x hx=>by
  have hlx:=hlt x hx
  cases x with
  | cell b off=>exact hb.below.cell (p:=⟨b,off,none⟩) hlx
  | map b=>exact hb.block b hlx
 have hargs:∀ sp:Nat→Bool,(∀ p∈before,sp p.block=true)→DataW.TrodAll enc P W' 0 sp true f.params.toList args.toList ds before:=fun sp hsp=>zgK hl _ _ _ _ hr hA hsame hsp
 have hres:∀ (b:Nat) (sp:Nat→Bool) (hd:Bool),DataW.TrodAll enc P W' b sp hd f.resultTypes.toList ((Value.bool true).resultList f.resultTypes.size) [.lit (.bool true)] []:=fun b sp hd=>by
  rw [hrt]
  exact⟨[],[],⟨1,by simp [DataW.trod,Value.cells,htb]⟩,rfl,rfl⟩
 refine⟨ds,[],before,[],before,[],hW0,?_,?_,?_,World.keptBut_mono (fun p hp=>⟨hp,Or.inr (Or.inl hp)⟩) (hb.below.frame (·∈before)),fun _=>?_⟩
 ·rw [hfn]; exact hres _ _ _
 ·rw [hfn]; exact hargs _ hold
 ·rw [hfn,hvars]; rfl
 ·refine⟨fun j t r ht hrr=>?_,ds.cons (.lit (.bool true)),[],before,⟨before,[],?_,by rw [hvars]; rfl,by simp,?_,?_⟩,fun x hx _=>hx⟩
  ·rw [hrt] at ht hrr
   have h0:t=tb:=by
    rcases j with _ | j
    ·simpa using ht.symm
    ·simp at ht
   have h1:r=.bool true:=by
    rcases j with _ | j
    ·simpa [Value.resultList] using hrr.symm
    ·simp at ht
   subst h0; subst h1
   exact okWide_bool_mk htb true
  ·have h1:=trodAll_append (hargs (fun _=>true) (fun _ _=>rfl)) (hres 0 (fun _=>true) true)
   simpa using h1
  ·intro b off hp
   rw [hb.below.frozen (hlt _ hp)]
   exact hz b off (by simpa using hp)
  ·intro ha
   have:=hn ha
   simpa using this
end
end Go.K
namespace Go.Proofs.YtdcfcfhmkfkgmaaGreatDoor
open Go Go.K Go.Stn Go.Pln Go.ChangeShapes Go.WideShapes Go.ChangeAt Go.RowKit
theorem own:ownKnob Tryz.prog.godebug=none:=by kernel_rfl
theorem laidOut:laidOutB Tryz.prog=true:=by kernel_rfl
abbrev laidR:List (String×DataW Unit):=Rows.planChecksRow.laid
noncomputable def worldR (os:Os):World:=(World.doorLaid Tryz.prog 400 os).layVars Tryz.prog [("unicode/utf8.first",Go.Pinned.utf8First)]
theorem worldR_os (os:Os):(worldR os).os=os:=World.layVars_os _ _ _
theorem door_metR (os:Os) (args:Array Value):laidMetH Tryz.prog laidR ((worldR os).forCall (fun _ _=>0) ⟨#[],args,[]⟩).memory:=
 laidMetH_of_parts3 (fuel:=8) (laidMet_of_run' 8 (by kernel_rfl) (by kernel_rfl)) (by kernel_rfl) (by kernel_rfl)
section
variable {H:Type} {enc:TypeId×Value→H}
theorem returnsInHanded_of_change_and_shaped {a:Assume} {C:Checked} {os:Os} {f:FuncId} {fn:Func} {s:ChangeSpec} {conds:List PathCond} {apart fresh handsOn again:Bool} {X:World→Array Value→Prop}
  (hX:∀ (w w':World) (args:Array Value),w.heap=w'.heap→X w args→X w' args)
  (own:ownKnob C.prog.godebug=none) (started:os.Started) (noInit:C.prog.inits.idxOf? f=none) (hfn:C.prog.funcs[f]?=some fn)
  (witness:∃ (w:World) (tape:Tape) (i:Input),w.os=os∧(w.forCall tape i).Shaped C.prog∧i.vars=[]∧Input.okWide C.prog (w.forCall tape i) .any w.heap.size f i ∧
   ((s.pre enc C.prog fn conds apart (w.forCall tape i).memory i.args∧X (w.forCall tape i).memory i.args)∧sizedMet enc C.prog fn (OpenSpec.ofChange s) apart (w.forCall tape i).memory i.args)∧a.holds C.prog (lone (Frame.enter C.prog f i.args .normal) [] (w.forCall tape i)))
  (contract:∀ (W:World) (base:Nat) (args:Array Value) (ds gs:List (DataW H)) (before:List MemPlace),
   (∀ (j:Nat) t v,fn.params[j]?=some t→args[j]?=some v→Value.okWide C.prog W .any base t v) →
   DataW.Whole enc C.prog fn.params.toList s.vars apart W args.toList ds gs before →
   conds.all (PathCond.test C.prog ⟨fn.params.toList,ds,s.plain.varTypes C.prog,gs⟩)=true →
   (DataW.weightsEach C.prog (fn.params.toList++s.plain.varTypes C.prog) (ds++gs)).all (·≤reachBytes)=true→X W args →
   W.ShapedOpen C.prog →
   Calls C.prog f args W fun e W'=>∃ v,e=.returned v∧s.post enc C.prog fn apart fresh handsOn again W args v W') :
  ReturnsInHanded a C os f .any (fun w args=>(s.pre enc C.prog fn conds apart w args∧X w args)∧sizedMet enc C.prog fn (OpenSpec.ofChange s) apart w args) (s.post enc C.prog fn apart fresh handsOn again):=by
 refine returnsInHanded_of_calls own started noInit witness ?_
 intro w tape i _ hsh _ hok hpre _
 obtain⟨_,_,_,fn',hfn',_,_,_,_,hval⟩:=hok
 have e:fn' = fn:=Option.some.inj (hfn'.symm.trans hfn)
 subst e
 obtain⟨⟨⟨ds,gs,before,hw,hc⟩,hx⟩,hz⟩:=hpre
 have hw':=DataW.Whole.of_heap (w':=w.forCall tape i) (by rfl) hw
 refine(contract (w.forCall tape i) w.heap.size i.args ds gs before hval hw' hc (hz.weights hw) (hX _ _ _ (by rfl) hx) hsh).mono fun e W' ⟨v,he,hp⟩=>?_
 subst he
 exact ChangeSpec.post_blind hp
end
theorem zo3 {W:World} {b o:Nat} {v:Value} (h:W.cell? ⟨b,o,none⟩=some v):b < W.heap.size:=by
 rcases Nat.lt_or_ge b W.heap.size with g | g
 ·exact g
 ·exfalso
  simp [World.cell?,Array.getElem?_eq_none g] at h
theorem int_of_shape {W:World} (h:W.ShapedOpen Tryz.prog):Has W (IntV 2):=by
 obtain⟨m,hm⟩:=cell_of_shapedOpen_int (P:=Tryz.prog) (g:=2) (t:=3) (zero:=#[.int .i64 0]) (k:=.i64) h (of_decide_eq_true (by kernel_rfl)) (by kernel_rfl) rfl (by kernel_rfl) (by kernel_rfl) Tryz.underlying3
 exact⟨(· = 2),fun k hk=>by rw [hk]; exact zo3 hm,fun _=>Iff.rfl,m,hm⟩
theorem zok {W:World} {l:List (String×DataW Unit)} (h:laidMetH Tryz.prog l W) {n:String} {d:DataW Unit} (hm:(n,d)∈l) (hd:d.handleName?.isNone=true):Lib.VarReads Tryz.prog W n d:=by
 unfold laidMetH at h
 split at h
 ·exact Lib.laidMet.reads h hm
 ·exact Lib.laidMet.reads h.1 (List.mem_filter.2 ⟨hm,hd⟩)
theorem zlF {t:TypeId} {k:Nat} {W:World} {fuel:Nat} {l:List Value} {L:List ByteArray} {p:List MemPlace} (ht:Tryz.prog.underlying t=some (.array k 9)) (hct:Tryz.prog.cellsOf t=k) (hk:k=L.length)
  (h:DataW.trod (fun _=>()) Tryz.prog W 0 (fun _=>true) false fuel t l=some (.agg (L.map fun s=>.lit (.string s.data.toList)),p)):l=L.map fun s=>.string s:=by
 obtain⟨xs,m,_,hx,hlen,hn,hel⟩:=DataW.trod_array ht h
 have c9:Tryz.prog.cellsOf 9=1:=by kernel_rfl
 rw [c9] at hel
 simp only [Prod.mk.injEq,DataW.agg.injEq] at hx
 have hc:l.length=k:=by rw [hlen,hct]
 refine List.ext_getElem? fun i=>?_
 rw [List.getElem?_map]
 rcases Nat.lt_or_ge i k with hi | hi
 ·have he:=hel i hi
  have hli:i < l.length:=by omega
  have hLi:i < L.length:=by omega
  have hxi:i < xs.length:=by omega
  rw [Nat.mul_one,List.drop_eq_getElem_cons hli,List.getElem?_eq_getElem hxi] at he
  have he1:DataW.trod (fun _=>()) Tryz.prog W 0 (fun _=>true) false m 9 [l[i]]=some xs[i]:=he
  obtain⟨s,e0,ey,_⟩:=DataW.trod_string Tryz.underlying9 he1
  have h1:(L.map fun s=>(DataW.lit (Lit.string s.data.toList):DataW Unit))[i]?=(xs.map (·.1))[i]?:=by rw [hx.1]
  rw [List.getElem?_map,List.getElem?_map,List.getElem?_eq_getElem hLi,List.getElem?_eq_getElem hxi,ey] at h1
  simp only [Option.map_some,Option.some.injEq,DataW.lit.injEq,Lit.string.injEq] at h1
  have h2:L[i]=s:=by
   have:=Array.toList_inj.1 h1
   exact ByteArray.ext this
  simp only [List.cons.injEq,and_true] at e0
  rw [List.getElem?_eq_getElem hli,List.getElem?_eq_getElem hLi,e0,h2]
  rfl
 ·rw [List.getElem?_eq_none (by omega),List.getElem?_eq_none (by omega)]; rfl
theorem znT {W:World} {g:Nat} {nm:String} {t:TypeId} {k:Nat} {L:List ByteArray} {l:List (String×DataW Unit)} (h:laidMetH Tryz.prog l W) (hm:(nm,.agg (L.map fun s=>.lit (.string s.data.toList)))∈l)
  (hd:(DataW.agg (L.map fun s=>.lit (.string s.data.toList)):DataW Unit).handleName?.isNone=true)
  (hg:Tryz.prog.globalNamed nm=some g) (htg:(Tryz.prog.globals[g]?).map (·.type)=some t) (ht:Tryz.prog.underlying t=some (.array k 9)) (hct:Tryz.prog.cellsOf t=k) (hk:k=L.length) (h0:0 < k):Has W (zaW (some ⟨g,0,none⟩) 1 encS L):=by
 obtain⟨g',t',cs,fuel,p,hg',ht',hv,hd'⟩:=zok h hm hd
 obtain rfl:=Option.some.inj (hg.symm.trans hg')
 obtain rfl:=Option.some.inj (htg.symm.trans ht')
 have hcs:=zlF ht hct hk hd'
 have hc:=World.var?_cell hg hv
 have hcell:∀ i x,L[i]?=some x→W.cell? ⟨g,i,none⟩=some (.string x):=fun i x hi=>by
  rw [hc i]
  obtain⟨lc⟩:=cs
  have h1:lc=_:=hcs
  rw [h1]
  simp [hi]
 refine⟨(· = g),fun b hb=>?_,.inr ⟨g,0,rfl,fun _=>Iff.rfl,fun i x hi=>⟨?_,trivial⟩⟩⟩
 ·rw [hb]
  match L,hk with
  | x :: r,_=>exact zo3 (hcell 0 x rfl)
  | [],hk=>exact absurd hk (by simp; omega)
 ·rw [Nat.zero_add,Nat.mul_one]; exact hcell i x hi
theorem copes_of_laid {W:World} {l:List (String×DataW Unit)} (h:laidMetH Tryz.prog l W) (hm:("copestone/plan.copes",Rows.laid_copestone_plan_copes)∈l):Has W (zaW (some ⟨0,0,none⟩) 1 encS copesW):=
 znT (t:=137) (k:=4) h hm (by kernel_rfl) (by kernel_rfl) (by kernel_rfl) Tryz.underlying137 (by kernel_rfl) rfl (by decide)
theorem opens_of_laid {W:World} {l:List (String×DataW Unit)} (h:laidMetH Tryz.prog l W) (hm:("copestone/plan.openings",Rows.laid_copestone_plan_openings)∈l):Has W (zaW (some ⟨1,0,none⟩) 1 encS opensW):=
 znT (t:=138) (k:=5) h hm (by kernel_rfl) (by kernel_rfl) (by kernel_rfl) Tryz.underlying138 (by kernel_rfl) rfl (by decide)
end Go.Proofs.YtdcfcfhmkfkgmaaGreatDoor
namespace Go.Proofs.YtdcfcfhmkfkgmaaGreatDoor
open Go Go.K Go.Stn Go.Pln Go.ChangeShapes Go.WideShapes Go.ChangeAt Go.WideElems Go.RowKit
section
variable {H:Type} {enc:TypeId×Value→H} {P:Program} {w:World} {base:Nat} {spare:Nat→Bool} {held:Bool}
theorem ziT {e:TypeId} {d:DataW H}:∀ {l:List (DataW H)},d∈l→∀ n∈d.weights P e,n∈DataW.weightsAll P e l
 | [],h,_,_=>by cases h
 | x :: r,h,n,hn=>by
  rw [DataW.weightsAll]
  rcases List.mem_cons.1 h with rfl | h
  ·exact List.mem_append_left _ hn
  ·exact List.mem_append_right _ (ziT h n hn)
def WOk (P:Program) (t:TypeId) (d:DataW H):Prop:=∀ n∈d.weights P t,n≤reachBytes
theorem wok_each:∀ {ts:List TypeId} {ds:List (DataW H)},(∀ n∈DataW.weightsEach P ts ds,n≤reachBytes)→∀ (i:Nat) t d,ts[i]?=some t→ds[i]?=some d→WOk P t d
 | [],_,_,i,t,d,h1,_=>by simp at h1
 | _ :: _,[],_,i,t,d,_,h2=>by simp at h2
 | t0 :: ts,d0 :: ds,h,i,t,d,h1,h2=>by
  rw [DataW.weightsEach] at h
  cases i with
  | zero=>
   simp only [List.getElem?_cons_zero,Option.some.injEq] at h1 h2
   subst h1; subst h2
   exact fun n hn=>h n (List.mem_append_left _ hn)
  | succ i=>
   simp only [List.getElem?_cons_succ] at h1 h2
   exact wok_each (fun n hn=>h n (List.mem_append_right _ hn)) i t d h1 h2
theorem zoH {t:TypeId} {fs:Array Field} (ht:P.underlying t=some (.struct fs)) {ys:List (DataW H×List MemPlace)} (h:WOk P t (.agg (ys.map (·.1)))) {i:Nat} {f:Field} {y:DataW H×List MemPlace} (hf:fs[i]?=some f) (hy:ys[i]?=some y):WOk P f.type y.1:=by
 have h':∀ n∈DataW.weightsEach P (fs.toList.map (·.type)) (ys.map (·.1)),n≤reachBytes:=fun n hn=>h n (by rw [DataW.weights,ht]; exact hn)
 refine wok_each h' i f.type y.1 ?_ ?_
 ·rw [List.getElem?_map,Array.getElem?_toList,hf]; rfl
 ·rw [List.getElem?_map,hy]; rfl
theorem zop {α:Type} {enc':α→List Value} {n:Nat} {Q:α→Prop} {t e:TypeId} {fuel:Nat} {cs:List Value} {x:DataW H×List MemPlace} (ht:P.underlying t=some (.slice e)) (hc:P.cellsOf e=n) (hn:Enc n enc')
  (hel:∀ (fuel:Nat) (cs:List Value) (y:DataW H×List MemPlace),DataW.trod enc P w base spare held fuel e cs=some y→WOk P e y.1→∃ z,Q z∧cs=enc' z)
  (h:DataW.trod enc P w base spare held fuel t cs=some x) (hx:WOk P t x.1) :
  ∃ (a:Option Addr) (L:List α) (cap:Nat),cs=[.slice a L.length cap]∧Has w (zaW a n enc' L)∧L.length≤cap∧(∀ z∈L,Q z)∧L.length*P.bytesOf e≤reachBytes:=by
 rcases Go.Deep.open_slice ht h with ⟨rfl,_⟩ | ⟨a,len,cap,m,k,D,Pl,rfl,hb,hl,hm,hmm,hxe,hi⟩
 ·exact⟨none,[],0,rfl,⟨fun _=>False,fun _ h=>h.elim,.inl rfl⟩,Nat.le_refl _,by simp,by simp⟩
 ·have hlm:len≤m:=by rw [hmm]; split <;> omega
  have hw:∀ v∈(len+(m - len))*P.bytesOf e :: (DataW.weightsAll P e ((List.range len).map D)++DataW.weightsAll P e ((List.range (m - len)).map fun j=>D (len+j))),v≤reachBytes:=fun v hv=>by
   refine hx v ?_
   rw [hxe,DataW.weights,ht]
   simpa using hv
  obtain⟨L,hll,hq⟩:=zp6 (Q:=fun i (z:α)=>Q z∧∀ j v,(enc' z)[j]?=some v→w.cell? (a.add (i*n+j))=some v) len (fun i hil=>by
   obtain⟨cs',hcs,ht'⟩:=hi i (by omega)
   obtain⟨z,hz,rfl⟩:=hel _ _ _ ht' (fun v hv=>hw v (List.mem_cons_of_mem _ (List.mem_append_left _ (ziT (List.mem_map.2 ⟨i,List.mem_range.2 hil,rfl⟩) v hv))))
   rw [hc] at hcs
   obtain⟨_,_,hat⟩:=World.cells?_some hcs
   refine⟨z,hz,fun j v hj=>?_⟩
   have hjn:j < n:=by
    have:=(List.getElem?_eq_some_iff.1 hj).1
    rw [hn.len] at this; exact this
   have h0:=hat j hjn
   rw [Go.Deep.add_add] at h0
   rw [h0]; exact hj)
  refine⟨some a,L,cap,by rw [hll],?_,by omega,fun z hz=>?_,?_⟩
  ·cases L with
   | nil=>exact⟨fun _=>False,fun _ h=>h.elim,.inl rfl⟩
   | cons z0 r=>
    obtain⟨v0,hv0⟩:∃ v0,(enc' z0)[0]?=some v0:=by
     have:0 < (enc' z0).length:=by rw [hn.len]; exact hn.pos
     exact⟨_,List.getElem?_eq_getElem this⟩
    have hc0:=(hq 0 z0 rfl).2 0 _ hv0
    obtain⟨b,off,sp⟩:=a
    have hsp:sp=none:=by
     cases sp with
     | none=>rfl
     | some s=>
      exfalso
      simp only [World.cell?,Addr.add] at hc0
      split at hc0 <;> simp_all
    subst hsp
    have hbs:b < w.heap.size:=by
     rcases Nat.lt_or_ge b w.heap.size with h | h
     ·exact h
     ·exfalso
      rw [zb2] at hc0
      simp [World.cell?,Array.getElem?_eq_none h] at hc0
    refine⟨(· = b),fun k hk=>by rw [hk]; exact hbs,.inr ⟨b,off,rfl,fun _=>Iff.rfl,fun i z hz=>zfA _ _ fun j v hj=>?_⟩⟩
    have:=(hq i z hz).2 j v hj
    rw [zb2] at this
    rw [Nat.add_assoc]; exact this
  ·obtain⟨i,hi',rfl⟩:=List.getElem_of_mem hz
   exact(hq i _ (by simp [hi'])).1
  ·have h1:=hw _ (List.mem_cons_self ..)
   rw [hll]
   refine Nat.le_trans (Nat.mul_le_mul_right _ ?_) h1
   omega
theorem zfs {t:TypeId} {fs:Array Field} {fuel:Nat} {cs:List Value} {x:DataW H×List MemPlace} (ht:P.underlying t=some (.struct fs)) (h:DataW.trod enc P w base spare held fuel t cs=some x) (hx:WOk P t x.1) (i:Nat) (f:Field) (hf:fs[i]?=some f) (ho:f.offset=i) (hc:P.cellsOf f.type=1) (hi:i < cs.length) :
  ∃ (v:Value) (y:DataW H×List MemPlace) (m:Nat),cs[i]?=some v∧DataW.trod enc P w base spare held m f.type [v]=some y∧WOk P f.type y.1:=by
 obtain⟨ys,m,_,hxe,_,hyl,hg⟩:=DataW.trod_struct ht h
 have h1:=hg i f hf
 have hfi:i < fs.size:=by
  rcases Nat.lt_or_ge i fs.size with g | g
  ·exact g
  ·rw [Array.getElem?_eq_none g] at hf; cases hf
 rw [ho,hc,List.drop_eq_getElem_cons hi,List.getElem?_eq_getElem (by omega)] at h1
 have h2:DataW.trod enc P w base spare held m f.type [cs[i]]=some (ys[i]'(by omega)):=h1
 refine⟨cs[i],ys[i]'(by omega),m,List.getElem?_eq_getElem hi,h2,?_⟩
 rw [hxe] at hx
 exact zoH ht hx hf (List.getElem?_eq_getElem (by omega))
theorem zh1 {t:TypeId} {fs:Array Field} {fuel:Nat} {cs:List Value} {x:DataW H×List MemPlace} (ht:P.underlying t=some (.struct fs)) (h:DataW.trod enc P w base spare held fuel t cs=some x) (hx:WOk P t x.1) (i:Nat) (f:Field) (hf:fs[i]?=some f) (ho:f.offset=i) (hc:P.cellsOf f.type=1) (hi:i < cs.length)
  (hu:P.underlying f.type=some .string):∃ s:ByteArray,cs[i]?=some (.string s)∧Fits s.size:=by
 obtain⟨v,y,m,hv,hy,hw⟩:=zfs ht h hx i f hf ho hc hi
 obtain⟨s,e,ey,_⟩:=DataW.trod_string hu hy
 simp only [List.cons.injEq,and_true] at e
 subst e; subst ey
 refine⟨s,hv,?_⟩
 have:=hw s.size (by rw [DataW.weights]; simp)
 unfold reachBytes at this
 unfold Fits
 omega
theorem zbA {t:TypeId} {fs:Array Field} {fuel:Nat} {cs:List Value} {x:DataW H×List MemPlace} (ht:P.underlying t=some (.struct fs)) (h:DataW.trod enc P w base spare held fuel t cs=some x) (hx:WOk P t x.1) (i:Nat) (f:Field) (hf:fs[i]?=some f) (ho:f.offset=i) (hc:P.cellsOf f.type=1) (hi:i < cs.length)
  {k:IntKind} (hu:P.underlying f.type=some (.int k)):∃ n:Int,cs[i]?=some (.int k n)∧(Lit.int k n).wf=true:=by
 obtain⟨v,y,m,hv,hy,hw⟩:=zfs ht h hx i f hf ho hc hi
 obtain⟨n,e,ey,hwf⟩:=DataW.trod_int hu hy
 simp only [List.cons.injEq,and_true] at e
 subst e
 exact⟨n,hv,hwf⟩
theorem zfD {α:Type} {enc':α→List Value} {n:Nat} {Q:α→Prop} {t e:TypeId} {fs:Array Field} {fuel:Nat} {cs:List Value} {x:DataW H×List MemPlace} (ht:P.underlying t=some (.struct fs)) (h:DataW.trod enc P w base spare held fuel t cs=some x) (hx:WOk P t x.1) (i:Nat) (f:Field) (hf:fs[i]?=some f) (ho:f.offset=i) (hc:P.cellsOf f.type=1) (hi:i < cs.length)
  (hu:P.underlying f.type=some (.slice e)) (hce:P.cellsOf e=n) (hn:Enc n enc') (hel:∀ (fuel:Nat) (cs:List Value) (y:DataW H×List MemPlace),DataW.trod enc P w base spare held fuel e cs=some y→WOk P e y.1→∃ z,Q z∧cs=enc' z) :
  ∃ (a:Option Addr) (L:List α) (cap:Nat),cs[i]?=some (.slice a L.length cap)∧Has w (zaW a n enc' L)∧L.length≤cap∧(∀ z∈L,Q z)∧L.length*P.bytesOf e≤reachBytes:=by
 obtain⟨v,y,m,hv,hy,hw⟩:=zfs ht h hx i f hf ho hc hi
 obtain⟨a,L,cap,e1,h1,h2,h3,h4⟩:=zop hu hce hn hel hy hw
 simp only [List.cons.injEq,and_true] at e1
 subst e1
 exact⟨a,L,cap,hv,h1,h2,h3,h4⟩
end
section
variable {H:Type} {enc:TypeId×Value→H} {w:World} {base:Nat} {spare:Nat→Bool} {held:Bool}
theorem zfH {P:Program} {t:TypeId} {fs:Array Field} {fuel n:Nat} {cs:List Value} {x:DataW H×List MemPlace} (ht:P.underlying t=some (.struct fs)) (hc:P.cellsOf t=n) (h:DataW.trod enc P w base spare held fuel t cs=some x):cs.length=n:=by
 obtain⟨_,_,_,_,hl,_⟩:=DataW.trod_struct ht h
 rw [hl,hc]
theorem zrX {fuel:Nat} {cs:List Value} {y:DataW H×List MemPlace} (h:DataW.trod enc Tryz.prog w base spare held fuel 3 cs=some y) (_:WOk Tryz.prog 3 y.1):∃ n:Int,True∧cs=Go.Stn.encI n:=by
 obtain⟨n,e,_,_⟩:=DataW.trod_int Tryz.underlying3 h
 exact⟨n,trivial,e⟩
theorem zrY {fuel:Nat} {cs:List Value} {y:DataW H×List MemPlace} (h:DataW.trod enc Tryz.prog w base spare held fuel 139 cs=some y) (hx:WOk Tryz.prog 139 y.1) :
  ∃ o:Opn,Knd o∧cs=zba o:=by
 have hl:cs.length=5:=zfH Tryz.underlying139 (by kernel_rfl) h
 obtain⟨f0,e0,q0⟩:=zbA Tryz.underlying139 h hx 0 _ rfl rfl (by kernel_rfl) (by omega) Tryz.underlying5
 obtain⟨f1,e1,q1⟩:=zbA Tryz.underlying139 h hx 1 _ rfl rfl (by kernel_rfl) (by omega) Tryz.underlying3
 obtain⟨f2,e2,q2⟩:=zbA Tryz.underlying139 h hx 2 _ rfl rfl (by kernel_rfl) (by omega) Tryz.underlying3
 obtain⟨f3,e3,q3⟩:=zbA Tryz.underlying139 h hx 3 _ rfl rfl (by kernel_rfl) (by omega) Tryz.underlying3
 obtain⟨f4,e4,q4⟩:=zbA Tryz.underlying139 h hx 4 _ rfl rfl (by kernel_rfl) (by omega) Tryz.underlying3
 match cs,hl with
 | [c0,c1,c2,c3,c4],_=>
  simp only [List.getElem?_cons_zero,List.getElem?_cons_succ,Option.some.injEq] at e0 e1 e2 e3 e4
  subst e0; subst e1; subst e2; subst e3; subst e4
  exact⟨⟨f0,f1,f2,f3,f4⟩,bounds_u8 q0,rfl⟩
structure ShIn (w:World) (z:ShC):Prop where
 hts:Has w (Ints z.a z.s.heights)
 cap:z.s.heights.length≤z.cap
 fits:Fits z.s.name.size
 cope:0≤z.s.cope
 cope2:z.s.cope≤255
structure WlIn (w:World) (z:WlC):Prop where
 ops:Has w (zaW z.a 5 zba z.s.opens)
 cap:z.s.opens.length≤z.cap
 knd:∀ o∈z.s.opens,Knd o
 fits:Fits z.s.name.size
 fits2:Fits z.s.sheet.size
theorem zr0 {fuel:Nat} {cs:List Value} {y:DataW H×List MemPlace} (h:DataW.trod enc Tryz.prog w base spare held fuel 37 cs=some y) (hx:WOk Tryz.prog 37 y.1) :
  ∃ z:ShC,ShIn w z∧cs=zbH z:=by
 have hl:cs.length=20:=zfH Tryz.underlying37 (by kernel_rfl) h
 obtain⟨f0,e0,q0⟩:=zh1 Tryz.underlying37 h hx 0 _ rfl rfl (by kernel_rfl) (by omega) Tryz.underlying9
 obtain⟨f1,e1,q1⟩:=zbA Tryz.underlying37 h hx 1 _ rfl rfl (by kernel_rfl) (by omega) Tryz.underlying3
 obtain⟨f2,e2,q2⟩:=zbA Tryz.underlying37 h hx 2 _ rfl rfl (by kernel_rfl) (by omega) Tryz.underlying3
 obtain⟨f3,e3,q3⟩:=zbA Tryz.underlying37 h hx 3 _ rfl rfl (by kernel_rfl) (by omega) Tryz.underlying3
 obtain⟨f4,e4,q4⟩:=zbA Tryz.underlying37 h hx 4 _ rfl rfl (by kernel_rfl) (by omega) Tryz.underlying3
 obtain⟨a5,f5,k5,e5,q5,r5,s5,b5⟩:=zfD (Q:=fun _=>True) Tryz.underlying37 h hx 5 _ rfl rfl (by kernel_rfl) (by omega) Tryz.underlying35 (by kernel_rfl) Go.Stn.encI_ok (fun _ _ _ h1 h2=>zrX h1 h2)
 obtain⟨f6,e6,q6⟩:=zbA Tryz.underlying37 h hx 6 _ rfl rfl (by kernel_rfl) (by omega) Tryz.underlying3
 obtain⟨f7,e7,q7⟩:=zbA Tryz.underlying37 h hx 7 _ rfl rfl (by kernel_rfl) (by omega) Tryz.underlying3
 obtain⟨f8,e8,q8⟩:=zbA Tryz.underlying37 h hx 8 _ rfl rfl (by kernel_rfl) (by omega) Tryz.underlying3
 obtain⟨f9,e9,q9⟩:=zbA Tryz.underlying37 h hx 9 _ rfl rfl (by kernel_rfl) (by omega) Tryz.underlying3
 obtain⟨f10,e10,q10⟩:=zbA Tryz.underlying37 h hx 10 _ rfl rfl (by kernel_rfl) (by omega) Tryz.underlying3
 obtain⟨f11,e11,q11⟩:=zbA Tryz.underlying37 h hx 11 _ rfl rfl (by kernel_rfl) (by omega) Tryz.underlying3
 obtain⟨f12,e12,q12⟩:=zbA Tryz.underlying37 h hx 12 _ rfl rfl (by kernel_rfl) (by omega) Tryz.underlying3
 obtain⟨f13,e13,q13⟩:=zbA Tryz.underlying37 h hx 13 _ rfl rfl (by kernel_rfl) (by omega) Tryz.underlying5
 obtain⟨f14,e14,q14⟩:=zbA Tryz.underlying37 h hx 14 _ rfl rfl (by kernel_rfl) (by omega) Tryz.underlying3
 obtain⟨f15,e15,q15⟩:=zbA Tryz.underlying37 h hx 15 _ rfl rfl (by kernel_rfl) (by omega) Tryz.underlying3
 obtain⟨f16,e16,q16⟩:=zbA Tryz.underlying37 h hx 16 _ rfl rfl (by kernel_rfl) (by omega) Tryz.underlying3
 obtain⟨f17,e17,q17⟩:=zbA Tryz.underlying37 h hx 17 _ rfl rfl (by kernel_rfl) (by omega) Tryz.underlying3
 obtain⟨f18,e18,q18⟩:=zbA Tryz.underlying37 h hx 18 _ rfl rfl (by kernel_rfl) (by omega) Tryz.underlying3
 obtain⟨f19,e19,q19⟩:=zbA Tryz.underlying37 h hx 19 _ rfl rfl (by kernel_rfl) (by omega) Tryz.underlying3
 match cs,hl with
 | [c0,c1,c2,c3,c4,c5,c6,c7,c8,c9,c10,c11,c12,c13,c14,c15,c16,c17,c18,c19],_=>
  simp only [List.getElem?_cons_zero,List.getElem?_cons_succ,Option.some.injEq] at e0 e1 e2 e3 e4 e5 e6 e7 e8 e9 e10 e11 e12 e13 e14 e15 e16 e17 e18 e19
  subst e0; subst e1; subst e2; subst e3; subst e4; subst e5; subst e6; subst e7; subst e8; subst e9; subst e10; subst e11; subst e12; subst e13; subst e14; subst e15; subst e16; subst e17; subst e18; subst e19
  exact⟨⟨⟨f0,f1,f2,f3,f4,f5,f6,f7,f8,f9,f10,f11,f12,f13,f14,f15,f16,f17,f18,f19⟩,a5,k5⟩,⟨q5,r5,q0,(bounds_u8 q13).1,(bounds_u8 q13).2⟩,rfl⟩
theorem zr1 {fuel:Nat} {cs:List Value} {y:DataW H×List MemPlace} (h:DataW.trod enc Tryz.prog w base spare held fuel 65 cs=some y) (hx:WOk Tryz.prog 65 y.1) :
  ∃ z:WlC,WlIn w z∧cs=zbS z:=by
 have hl:cs.length=4:=zfH Tryz.underlying65 (by kernel_rfl) h
 obtain⟨f0,e0,q0⟩:=zh1 Tryz.underlying65 h hx 0 _ rfl rfl (by kernel_rfl) (by omega) Tryz.underlying9
 obtain⟨f1,e1,q1⟩:=zh1 Tryz.underlying65 h hx 1 _ rfl rfl (by kernel_rfl) (by omega) Tryz.underlying9
 obtain⟨f2,e2,q2⟩:=zbA Tryz.underlying65 h hx 2 _ rfl rfl (by kernel_rfl) (by omega) Tryz.underlying3
 obtain⟨a3,f3,k3,e3,q3,r3,s3,b3⟩:=zfD (Q:=Knd) Tryz.underlying65 h hx 3 _ rfl rfl (by kernel_rfl) (by omega) Tryz.underlying63 (by kernel_rfl) encOpn_ok (fun _ _ _ h1 h2=>zrY h1 h2)
 match cs,hl with
 | [c0,c1,c2,c3],_=>
  simp only [List.getElem?_cons_zero,List.getElem?_cons_succ,Option.some.injEq] at e0 e1 e2 e3
  subst e0; subst e1; subst e2; subst e3
  exact⟨⟨⟨f0,f1,f2,f3⟩,a3,k3⟩,⟨q3,r3,s3,q0,q1⟩,rfl⟩
theorem h37 {n:Nat} (h:n*Tryz.prog.bytesOf 37≤reachBytes):Small n:=by
 rw [show Tryz.prog.bytesOf 37=184 by kernel_rfl] at h
 unfold reachBytes at h
 unfold Small
 omega
theorem h65 {n:Nat} (h:n*Tryz.prog.bytesOf 65≤reachBytes):n≤4398046511104:=by
 rw [show Tryz.prog.bytesOf 65=64 by kernel_rfl] at h
 unfold reachBytes at h
 omega
structure zsA (w:World) (a:Option Addr) (cap:Nat) (S:List ShC) (b:Option Addr) (bcap:Nat) (V:List WlC):Prop where
 hl:Has w (zaW a 20 zbH S)
 hcS:S.length≤cap
 hS:∀ z∈S,ShIn w z
 hs:Small S.length
 hlw:Has w (zaW b 4 zbS V)
 hcV:V.length≤bcap
 hV:∀ z∈V,WlIn w z
 hsw:V.length≤4398046511104
theorem zrZ {fuel:Nat} {cs:List Value} {y:DataW H×List MemPlace} (h:DataW.trod enc Tryz.prog w base spare held fuel 25 cs=some y) (hx:WOk Tryz.prog 25 y.1) :
  ∃ (a:Option Addr) (cap:Nat) (S:List ShC) (b:Option Addr) (bcap:Nat) (V:List WlC),zsA w a cap S b bcap V∧cs=[.slice a S.length cap,.slice b V.length bcap]:=by
 have hl:cs.length=2:=zfH Tryz.underlying25 (by kernel_rfl) h
 obtain⟨a0,f0,k0,e0,q0,r0,s0,b0⟩:=zfD (Q:=ShIn w) Tryz.underlying25 h hx 0 _ rfl rfl (by kernel_rfl) (by omega) Tryz.underlying22 (by kernel_rfl) zbI (fun _ _ _ h1 h2=>zr0 h1 h2)
 obtain⟨a1,f1,k1,e1,q1,r1,s1,b1⟩:=zfD (Q:=WlIn w) Tryz.underlying25 h hx 1 _ rfl rfl (by kernel_rfl) (by omega) Tryz.underlying23 (by kernel_rfl) zbo (fun _ _ _ h1 h2=>zr1 h1 h2)
 match cs,hl with
 | [c0,c1],_=>
  simp only [List.getElem?_cons_zero,List.getElem?_cons_succ,Option.some.injEq] at e0 e1
  subst e0; subst e1
  exact⟨a0,k0,f0,a1,k1,f1,⟨q0,r0,s0,h37 b0,q1,r1,s1,h65 b1⟩,rfl⟩
set_option maxRecDepth 100000 in
theorem open_plan {r:Reach} {b0:Nat} {v:Value} {d:DataW H} {p:List MemPlace} (hv:Value.okWide Tryz.prog w r b0 25 v) (h:DataW.Trod enc Tryz.prog w base spare held 25 v d p) (hx:WOk Tryz.prog 25 d) :
  ∃ (a:Option Addr) (cap:Nat) (S:List ShC) (b:Option Addr) (bcap:Nat) (V:List WlC),zsA w a cap S b bcap V∧v=.agg #[.slice a S.length cap,.slice b V.length bcap]:=by
 obtain⟨cs,rfl,hsz⟩:=okWide_struct Tryz.underlying25 hv
 obtain⟨fuel,hf⟩:=h
 obtain⟨a,cap,S,b,bcap,V,h1,h2⟩:=zrZ (y:=(d,p)) hf hx
 refine⟨a,cap,S,b,bcap,V,h1,?_⟩
 obtain⟨ls⟩:=cs
 have h5:ls=_:=h2
 rw [h5]
end
end Go.Proofs.YtdcfcfhmkfkgmaaGreatDoor
namespace Go.Proofs.YtdcfcfhmkfkgmaaGreatDoor
open Go Go.K Go.Stn Go.Pln Go.ChangeShapes Go.WideShapes Go.ChangeAt Go.RowKit
set_option maxRecDepth 100000 in
theorem pow10_of_laid {W:World} {l:List (String×DataW Unit)} (h:laidMetH Tryz.prog l W) (hm:("internal/strconv.uint64pow10",Rows.laid_internal_strconv_uint64pow10)∈l):Has W (VarR 3 zB1):=by
 have hg:Tryz.prog.globalNamed "internal/strconv.uint64pow10" = some 3:=by kernel_rfl
 obtain⟨g,t,cs,fuel,p,hg',ht,hv,hd⟩:=zok h hm (by kernel_rfl)
 obtain rfl:=Option.some.inj (hg.symm.trans hg')
 obtain rfl:=Option.some.inj ((show(Tryz.prog.globals[3]?).map (·.type)=some 247 by kernel_rfl).symm.trans ht)
 have hc:=Lib.cells_of_tab (k:=.u64) (zs:=Lib.pow10Tab) Tryz.underlying247 Tryz.underlying226 (by kernel_rfl) (by kernel_rfl) (show DataW.trod (fun _=>()) Tryz.prog W 0 (fun _=>true) false fuel 247 cs.toList=some (Lib.tabData .u64 Lib.pow10Tab,p) from hd)
 refine zD4 hg ?_
 rw [hv,zB1,←hc]
end Go.Proofs.YtdcfcfhmkfkgmaaGreatDoor