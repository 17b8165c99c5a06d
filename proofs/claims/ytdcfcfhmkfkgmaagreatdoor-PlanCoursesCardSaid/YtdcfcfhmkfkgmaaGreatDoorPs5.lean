/- What the proof of the root text leans on, part 5: the layer, plain facts and walks. No statement of the seat is proved in this text. -/
import Derived.Shelf.SlSortCmp.NoneTotal
import Derived.Test.YtdcfcfhmkfkgmaaGreatDoorProg
import Derived.Test.YtdcfcfhmkfkgmaaGreatDoorPs4
namespace Go.Pln
open Go Go.K Go.RowKit Go.Stn
section
variable {α:Type} [Inhabited α] {p:α→Bool}
def offL (p:α→Bool) (l:List α):List α:=l.filter fun x=>!p x
def offZ (p:α→Bool) (l:List α):List α:=offL p l++List.replicate (l.length - (offL p l).length) default
structure OffI (p:α→Bool) (l m:List α) (i j:Int):Prop where
 i0:0≤i
 ij:i < j
 jl:j≤(l.length:Int)
 len:m.length=l.length
 front:m.take i.toNat=offL p (l.take j.toNat)
 back:m.drop j.toNat=l.drop j.toNat
theorem zey {l:List α} {i:Int} (h0:0≤i) (h:i < (l.length:Int)):l.take (i+1).toNat=l.take i.toNat++[l.getD i.toNat default]:=by
 rw [show(i+1).toNat=i.toNat+1 from by omega,List.take_add_one,List.getD_eq_getElem?_getD,List.getElem?_eq_getElem (by omega)]; rfl
omit [Inhabited α] in
theorem zrQ {l:List α} (h:zbJ p l = -1):offL p l=l:=by
 unfold offL
 rw [List.filter_eq_self]
 intro x hx
 rw [zod h x hx]; rfl
theorem zqh {l:List α} (h:¬ zbJ p l = -1):OffI p l l (zbJ p l) (zbJ p l+1):=by
 obtain⟨h0,h1,h2,h3⟩:=zoe h
 refine⟨h0,by omega,by omega,rfl,?_,rfl⟩
 rw [zey h0 h1]
 unfold offL
 rw [List.filter_append]
 have e1:(l.take (zbJ p l).toNat).filter (fun x=>!p x)=l.take (zbJ p l).toNat:=by
  rw [List.filter_eq_self]
  intro x hx
  obtain⟨j,hj,rfl⟩:=List.getElem_of_mem hx
  rw [List.length_take] at hj
  have:=h3 j (by omega)
  have hjl:j < l.length:=by omega
  rw [List.getElem_take]
  simp [hjl] at this
  simp [this]
 rw [e1]
 rw [List.filter_cons,if_neg (by rw [h2]; decide)]
 simp
theorem OffI.get {l m:List α} {i j:Int} (h:OffI p l m i j):m.getD j.toNat default=l.getD j.toNat default:=by
 have hb:=congrArg (fun x:List α=>x[0]?) h.back
 simp only [List.getElem?_drop,Nat.add_zero] at hb
 simp only [List.getD_eq_getElem?_getD,hb]
theorem OffI.keep {l m:List α} {i j:Int} (h:OffI p l m i j) (hj:j < (l.length:Int)) (hu:p (m.getD j.toNat default)=false):OffI p l (m.set i.toNat (m.getD j.toNat default)) (i+1) (j+1):=by
 have hi0:=h.i0; have hij:=h.ij; have hl:=h.len
 have hg:=h.get
 refine⟨by omega,by omega,by omega,by rw [List.length_set]; exact hl,?_,?_⟩
 ·rw [zey (l:=l) (by omega) (by omega),zey (l:=m.set _ _) hi0 (by rw [List.length_set]; omega)]
  unfold offL
  rw [List.filter_append,List.filter_cons,if_pos (by rw [←hg,hu]; rfl),List.filter_nil]
  have h2:=h.front
  unfold offL at h2
  rw [←h2,List.take_set_of_le (Nat.le_refl _),hg]
  congr 1
  rw [List.getD_eq_getElem?_getD,List.getElem?_set_self (by omega)]
  rfl
 ·rw [List.drop_set_of_lt (by omega),show(j+1).toNat=j.toNat+1 from by omega,←List.drop_drop,h.back,List.drop_drop]
theorem OffI.skip {l m:List α} {i j:Int} (h:OffI p l m i j) (hj:j < (l.length:Int)) (hu:p (m.getD j.toNat default)=true):OffI p l m i (j+1):=by
 have hi0:=h.i0; have hij:=h.ij; have hl:=h.len
 have hg:=h.get
 refine⟨by omega,by omega,by omega,hl,?_,?_⟩
 ·rw [zey (l:=l) (by omega) (by omega)]
  unfold offL
  rw [List.filter_append,List.filter_cons,if_neg (by rw [←hg,hu]; decide),List.filter_nil,List.append_nil]
  exact h.front
 ·rw [show(j+1).toNat=j.toNat+1 from by omega,←List.drop_drop,h.back,List.drop_drop]
omit [Inhabited α] in
theorem OffI.done {l m:List α} {i j:Int} (h:OffI p l m i j) (hj:¬ j < (l.length:Int)):m.take i.toNat=offL p l∧i.toNat=(offL p l).length∧m.length=l.length:=by
 have hi0:=h.i0; have hij:=h.ij; have hl:=h.len; have hjl:=h.jl
 have hf:=h.front
 rw [List.take_of_length_le (l:=l) (by omega)] at hf
 have:=congrArg List.length hf
 rw [List.length_take] at this
 exact⟨hf,by omega,hl⟩
omit [Inhabited α] in
theorem zun (l:List α):(offL p l).length≤l.length:=List.length_filter_le _ _
end
end Go.Pln
namespace Go.Proofs.YtdcfcfhmkfkgmaaGreatDoor
open Go.K Go.Stn Go.Pln Go.RowKit
theorem af92:AF Tryz.prog 92 98 5 40 [.int IntKind.u8 0,.int IntKind.i64 0,.int IntKind.i64 0,.int IntKind.i64 0,.int IntKind.i64 0]:=⟨Tryz.underlying92,by kernel_rfl,rfl⟩
theorem zbC (x0:ByteArray) (x1:Int) (x2:Int) (x3:Int) (x4:Int) (x5a:Option Addr) (x5n x5c:Nat) (x6:Int) (x7:Int) (x8:Int) (x9:Int) (x10:Int) (x11:Int) (x12:Int) (x13:Int) (x14:Int) (x15:Int) (x16:Int) (x17:Int) (x18:Int) (x19:Int) (w:World):(Instr.build 41 #[(0,.string x0),(1,.int .i64 x1),(2,.int .i64 x2),(3,.int .i64 x3),(4,.int .i64 x4),(5,.slice x5a x5n x5c),(6,.int .i64 x6),(7,.int .i64 x7),(8,.int .i64 x8),(9,.int .i64 x9),(10,.int .i64 x10),(11,.int .i64 x11),(12,.int .i64 x12),(13,.int .u8 x13),(14,.int .i64 x14),(15,.int .i64 x15),(16,.int .i64 x16),(17,.int .i64 x17),(18,.int .i64 x18),(19,.int .i64 x19)]).run Tryz.prog w=.ok (.agg #[.string x0,.int .i64 x1,.int .i64 x2,.int .i64 x3,.int .i64 x4,.slice x5a x5n x5c,.int .i64 x6,.int .i64 x7,.int .i64 x8,.int .i64 x9,.int .i64 x10,.int .i64 x11,.int .i64 x12,.int .u8 x13,.int .i64 x14,.int .i64 x15,.int .i64 x16,.int .i64 x17,.int .i64 x18,.int .i64 x19]) w:=by kernel_rfl
theorem zjI (x0:ByteArray) (x1:ByteArray) (x2:Int) (w:World):(Instr.build 94 #[(0,.string x0),(1,.string x1),(2,.int .i64 x2)]).run Tryz.prog w=.ok (.agg #[.string x0,.string x1,.int .i64 x2,.slice none 0 0]) w:=by kernel_rfl
theorem zfX (x0:Int) (x1:Int) (x2:Int) (x3:Int) (x4:Int) (w:World):(Instr.build 98 #[(0,.int .u8 x0),(1,.int .i64 x1),(2,.int .i64 x2),(3,.int .i64 x3),(4,.int .i64 x4)]).run Tryz.prog w=.ok (.agg #[.int .u8 x0,.int .i64 x1,.int .i64 x2,.int .i64 x3,.int .i64 x4]) w:=by kernel_rfl
theorem zo2 (x0_0:Int) (x0_1:Int) (x0_2:Int) (x0_3:Int) (x0_4:Int) (w:World):(Instr.buildSlice 92 1 #[(0,.agg #[.int .u8 x0_0,.int .i64 x0_1,.int .i64 x0_2,.int .i64 x0_3,.int .i64 x0_4])]).run Tryz.prog w=.ok (.slice (some ⟨w.heap.size,0,none⟩) 1 1) (w.alloc (.cells (([⟨x0_0,x0_1,x0_2,x0_3,x0_4⟩]:List (Opn)).flatMap zba).toArray 98)):=by kernel_rfl
set_option maxRecDepth 100000 in
set_option maxHeartbeats 8000000 in
theorem zrH (s:Sht) (b:Option Addr) (bcap:Nat) (w:World) (hl:Has w (Ints b s.heights)) (hs:zaP s.heights.length) :
  Calls Tryz.prog 43 #[.agg #[.string s.name,.int .i64 s.base,.int .i64 s.batter,.int .i64 s.height,.int .i64 s.skin,.slice b s.heights.length bcap,.int .i64 s.least,.int .i64 s.lap,.int .i64 s.run,.int .i64 s.every,.int .i64 s.at_,.int .i64 s.footing,.int .i64 s.spread,.int .u8 s.cope,.int .i64 s.tall,.int .i64 s.short,.int .i64 s.thick,.int .i64 s.low,.int .i64 s.high,.int .i64 s.rood]] w (zcU (fun z:Option Addr×Nat=>.agg #[.string s.name,.int .i64 s.base,.int .i64 s.batter,.int .i64 s.height,.int .i64 s.skin,.slice z.1 s.heights.length z.2,.int .i64 s.least,.int .i64 s.lap,.int .i64 s.run,.int .i64 s.every,.int .i64 s.at_,.int .i64 s.footing,.int .i64 s.spread,.int .u8 s.cope,.int .i64 s.tall,.int .i64 s.short,.int .i64 s.thick,.int .i64 s.low,.int .i64 s.high,.int .i64 s.rood]) (fun z=>Row z.1 1 z.2 3 Go.Stn.encI s.heights) w):=by
 refine zan (vs:=[_]) Tryz.func43 rfl rfl (Nat.le_of_ble_eq_true rfl) ?_
 refine zac ?_
 refine zaa ?_
 refine zaG rfl rfl (za3 (vs:=[_,_,_,_,_,_,_,_,_,_,_,_,_,_,_,_,_,_,_,_]) rfl rfl) fun b1=>?_
 refine zaG rfl rfl (zaL tf41 (zs:=[_,_,_,_,_,_,_,_,_,_,_,_,_,_,_,_,_,_,_,_]) rfl) fun b2=>?_
 refine zag (zae (T':=[(1,_),(2,_)]) ⟨rfl,rfl,trivial⟩ ?_)
 refine zac ?_
 refine zbb 41 (fun _=>mixed) (by kernel_rfl) ?_
 refine ph_y (zab zkW rfl) ?_
 refine ph_y (zah 1 tf9 rfl rfl rfl) ?_
 refine ph_y (zab zna rfl) ?_
 refine ph_y (zah 1 tf3 rfl rfl rfl) ?_
 refine ph_y (zab zps rfl) ?_
 refine ph_y (zah 1 tf3 rfl rfl rfl) ?_
 refine ph_y (zab zdC rfl) ?_
 refine ph_y (zah 1 tf3 rfl rfl rfl) ?_
 refine ph_y (zab zkX rfl) ?_
 refine ph_y (zah 1 tf3 rfl rfl rfl) ?_
 refine ph_y (zab zgl rfl) ?_
 refine ph_y (zah 1 tf35 rfl rfl rfl) ?_
 refine zmr (zoJ (m:=s.heights) af35 Go.Stn.encI_ok rfl rfl (fun _ hw=>(Rd.has (Has.rd hl) hw)) (by have:=hs; unfold zaP at *; omega) (by have:=hs; unfold zaP at *; unfold maxLen; omega)) ?_
 refine ph_y (zab zpt rfl) ?_
 refine ph_y (zah 1 tf3 rfl rfl rfl) ?_
 refine ph_y (zab zsI rfl) ?_
 refine ph_y (zah 1 tf3 rfl rfl rfl) ?_
 refine ph_y (zab zsJ rfl) ?_
 refine ph_y (zah 1 tf3 rfl rfl rfl) ?_
 refine ph_y (zab zjh rfl) ?_
 refine ph_y (zah 1 tf3 rfl rfl rfl) ?_
 refine ph_y (zab zjU rfl) ?_
 refine ph_y (zah 1 tf3 rfl rfl rfl) ?_
 refine ph_y (zab zl4 rfl) ?_
 refine ph_y (zah 1 tf3 rfl rfl rfl) ?_
 refine ph_y (zab zl5 rfl) ?_
 refine ph_y (zah 1 tf3 rfl rfl rfl) ?_
 refine ph_y (zab zfb rfl) ?_
 refine ph_y (zah 1 tf5 rfl rfl rfl) ?_
 refine ph_y (zab zjV rfl) ?_
 refine ph_y (zah 1 tf3 rfl rfl rfl) ?_
 refine ph_y (zab zh7 rfl) ?_
 refine ph_y (zah 1 tf3 rfl rfl rfl) ?_
 refine ph_y (zab zh8 rfl) ?_
 refine ph_y (zah 1 tf3 rfl rfl rfl) ?_
 refine ph_y (zab zpr rfl) ?_
 refine ph_y (zah 1 tf3 rfl rfl rfl) ?_
 refine ph_y (zab zl6 rfl) ?_
 refine ph_y (zah 1 tf3 rfl rfl rfl) ?_
 refine ph_y (zab zl7 rfl) ?_
 refine ph_y (zah 1 tf3 rfl rfl rfl) ?_
 intro z15
 refine zae (T':=[(2,_),(4,_),(6,_),(8,_),(10,_),(12,_),(15,_),(17,_),(19,_),(21,_),(23,_),(25,_),(27,_),(29,_),(31,_),(33,_),(35,_),(37,_),(39,_),(41,_),(43,_)]) ⟨rfl,rfl,rfl,rfl,rfl,rfl,rfl,rfl,rfl,rfl,rfl,rfl,rfl,rfl,rfl,rfl,rfl,rfl,rfl,rfl,rfl,trivial⟩ ?_
 refine gk_y rfl rfl (zaI rfl (zbC _ _ _ _ _ _ _ _ _ _ _ _ _ _ _ _ _ _ _ _ _ _)) ?_
 refine zbz 1 tf41 rfl rfl (vs:=[_,_,_,_,_,_,_,_,_,_,_,_,_,_,_,_,_,_,_,_]) rfl rfl rfl rfl rfl ?_
 refine zag (zae (T':=[(2,_)]) ⟨rfl,trivial⟩ ?_)
 refine zaw ?_
 refine zbd (z15.1,z15.2) 0 (zaC rfl (zbU (i:=1) (vs:=[.string s.name,.int .i64 s.base,.int .i64 s.batter,.int .i64 s.height,.int .i64 s.skin,.slice z15.1 s.heights.length z15.2,.int .i64 s.least,.int .i64 s.lap,.int .i64 s.run,.int .i64 s.every,.int .i64 s.at_,.int .i64 s.footing,.int .i64 s.spread,.int .u8 s.cope,.int .i64 s.tall,.int .i64 s.short,.int .i64 s.thick,.int .i64 s.low,.int .i64 s.high,.int .i64 s.rood]) tf41 rfl rfl rfl rfl)) ?_ rfl
 rfl
set_option maxRecDepth 100000 in
set_option maxHeartbeats 8000000 in
theorem zuf (v:Wll) (b:Option Addr) (bcap:Nat) (w:World) (hv:Has w (zaW b 5 zba v.opens)) (hs:zaP v.opens.length) :
  Calls Tryz.prog 44 #[.agg #[.string v.name,.string v.sheet,.int .i64 v.length,.slice b v.opens.length bcap]] w (zcU (fun z:Option Addr×Nat=>.agg #[.string v.name,.string v.sheet,.int .i64 v.length,.slice z.1 v.opens.length z.2]) (fun z=>Row z.1 5 z.2 98 zba v.opens) w):=by
 unfold zaP at hs
 refine zan (vs:=[_]) Tryz.func44 rfl rfl (Nat.le_of_ble_eq_true rfl) ?_
 refine zac ?_
 refine zaa ?_
 refine zaG rfl rfl (za3 (vs:=[_,_,_,_]) rfl rfl) fun b1=>?_
 refine zaG rfl rfl (zaL tf94 (zs:=[_,_,_,_]) rfl) fun b2=>?_
 refine zag (zae (T':=[(1,_),(2,_)]) ⟨rfl,rfl,trivial⟩ ?_)
 refine zac ?_
 refine zaa ?_
 refine gk_y rfl rfl (zab znf rfl) ?_
 refine gk_y rfl rfl (zah 1 tf9 rfl rfl rfl) ?_
 refine gk_y rfl rfl (zab zpy rfl) ?_
 refine gk_y rfl rfl (zah 1 tf9 rfl rfl rfl) ?_
 refine gk_y rfl rfl (zab zfS rfl) ?_
 refine gk_y rfl rfl (zah 1 tf3 rfl rfl rfl) ?_
 refine gk_y rfl rfl (zaI rfl (zjI _ _ _)) ?_
 refine zaG rfl rfl (zaL tf94 (zs:=[_,_,_,_]) rfl) fun b3=>?_
 refine zaA 0 tf94 rfl rfl (vs:=[_,_,_,_]) rfl rfl rfl rfl rfl ?_
 refine zag (zae (T':=[(1,_),(2,_),(3,_)]) ⟨rfl,rfl,rfl,trivial⟩ ?_)
 refine zac ?_
 refine zac ?_
 refine zaa ?_
 refine gk_y rfl rfl (zad rfl) ?_
 refine zag (zae (T':=[(1,_),(2,_),(3,_),(4,_)]) ⟨rfl,rfl,rfl,rfl,trivial⟩ ?_)
 refine zas ?_
 refine zbB 98 zba 5 ?_
 refine zbf (X:=Int×Option Addr×Nat×List Opn) (fun⟨i,ra,rc,M⟩=>[(1,.pointer (some ⟨b1,0,none⟩)),(2,.pointer (some ⟨b2,0,none⟩)),(3,.pointer (some ⟨b3,0,none⟩)),(4,.int .i64 i)]) (fun⟨i,ra,rc,M⟩=>[Row ra 5 rc 98 zba M,Box b3 [.string v.name,.string v.sheet,.int .i64 v.length,.slice ra M.length rc] 94,Box b2 [.string ⟨#[]⟩,.string ⟨#[]⟩,.int .i64 0,.slice none 0 0] 94,Box b1 [.string v.name,.string v.sheet,.int .i64 v.length,.slice b v.opens.length bcap] 65]) (fun⟨i,ra,rc,M⟩=>(0≤i∧i≤v.opens.length∧M=v.opens.take i.toNat)) (fun⟨i,ra,rc,M⟩=>(v.opens.length - i).toNat) (0,none,0,[]) ⟨rfl,rfl,rfl,rfl,trivial⟩ rfl ?_ ?_
 ·exact⟨by omega,by omega,rfl⟩
 ·rintro ⟨i,ra,rc,M⟩ hI
  obtain⟨g0,g1,g2⟩:=hI
  have hml:M.length≤v.opens.length:=by rw [g2,List.length_take]; omega
  refine zac ?_
  refine zac ?_
  refine zaa ?_
  refine gk_y rfl rfl (zaf rfl) ?_
  refine gk_y rfl rfl (zab zgn rfl) ?_
  refine gk_y rfl rfl (zah 3 tf63 rfl rfl rfl) ?_
  refine gk_y rfl rfl (zaV (Tryz.underlying63) rfl) ?_
  refine gk_y rfl rfl (zbw rfl rfl) ?_
  refine zag (zae (T':=[(1,_),(2,_),(3,_),(4,_),(17,_)]) ⟨rfl,rfl,rfl,rfl,rfl,trivial⟩ ?_)
  refine zap rfl (fun hc17=>?_) (fun hc17=>?_)
  ·have hc17:=of_decide_eq_true hc17
   refine zaq ?_
   refine zac ?_
   refine zas ?_
   refine zac ?_
   refine zaa ?_
   refine gk_y rfl rfl (zab zgn rfl) ?_
   refine gk_y rfl rfl (zah 3 tf63 rfl rfl rfl) ?_
   refine gk_y rfl rfl (zaf rfl) ?_
   refine gk_y rfl rfl (zaE se63 rfl rfl (fun _ hw=>(Rd.has (Has.rd hv) hw)) (by omega) (by omega)) ?_
   refine gk_y rfl rfl (zbv (vs:=[_,_,_,_,_]) zht rfl (fun _ hw=>(Rd.has (Has.rd hv) hw)) (by omega) (by omega) rfl) ?_
   refine zaG rfl rfl (zaL zht (zs:=[_,_,_,_,_]) rfl) fun b5=>?_
   refine zaA 0 zht rfl rfl (vs:=[_,_,_,_,_]) rfl rfl rfl rfl rfl ?_
   refine zag (zae (T':=[(1,_),(2,_),(3,_),(4,_),(5,_)]) ⟨rfl,rfl,rfl,rfl,rfl,trivial⟩ ?_)
   refine zaa ?_
   refine gk_y rfl rfl (zab zhe rfl) ?_
   refine gk_y rfl rfl (zah 2 tf92 rfl rfl rfl) ?_
   refine gk_y rfl rfl (zab zjT rfl) ?_
   refine gk_y rfl rfl (zah 0 tf5 rfl rfl rfl) ?_
   refine gk_y rfl rfl (zab zdS rfl) ?_
   refine gk_y rfl rfl (zah 0 tf3 rfl rfl rfl) ?_
   refine gk_y rfl rfl (zab zfZ rfl) ?_
   refine gk_y rfl rfl (zah 0 tf3 rfl rfl rfl) ?_
   refine gk_y rfl rfl (zab zdx rfl) ?_
   refine gk_y rfl rfl (zah 0 tf3 rfl rfl rfl) ?_
   refine gk_y rfl rfl (zab zfa rfl) ?_
   refine gk_y rfl rfl (zah 0 tf3 rfl rfl rfl) ?_
   refine gk_y rfl rfl (zaI rfl (zfX _ _ _ _ _)) ?_
   refine zaG rfl rfl (zaD rfl (zo2 _ _ _ _ _) encOpn_ok rfl) fun b38=>?_
   refine zb4 (m:=[(v.opens.getD (i).toNat default)]) 2 af92 encOpn_ok rfl rfl rfl rfl (fun _ hw=>(zam encOpn_ok (hw.has (p:=0) rfl))) (by first | omega | (simp only [List.length_cons,List.length_nil]; omega)) (by first | (unfold maxLen; omega) | (simp only [List.length_cons,List.length_nil,maxLen]; omega)) fun a39 c39=>?_
   refine gk_y rfl rfl (zab zhe rfl) ?_
   refine zaA 3 tf92 rfl rfl (vs:=[_]) rfl rfl rfl rfl rfl ?_
   refine zag (zae (T':=[(1,_),(2,_),(3,_),(4,_)]) ⟨rfl,rfl,rfl,rfl,trivial⟩ ?_)
   refine zaa ?_
   refine gk_y rfl rfl (zaf rfl) ?_
   refine gk_y rfl rfl (zaY rfl rfl (by omega) (by omega)) ?_
   refine gk_y rfl rfl (zad rfl) ?_
   refine zag (zae (T':=[(1,_),(2,_),(3,_),(4,_)]) ⟨rfl,rfl,rfl,rfl,trivial⟩ ?_)
   refine zaK 0 rfl ?_
   refine zaK 0 rfl ?_
   exact za1 (i+1,_,_,_) ⟨rfl,rfl,rfl,rfl,trivial⟩ rfl ⟨by omega,by omega,by rw [g2,zey g0 hc17]⟩ (by simp only []; omega)
  ·have hc17:=of_decide_eq_false hc17
   obtain rfl:M=v.opens:=by rw [g2,List.take_of_length_le (by omega)]
   refine za8 rfl ?_
   refine zac ?_
   refine zaa ?_
   refine gk_y rfl rfl (zat 1 tf94 rfl rfl (vs:=[_,_,_,_]) rfl rfl) ?_
   refine zaA 2 tf94 rfl rfl (vs:=[_,_,_,_]) rfl rfl rfl rfl rfl ?_
   refine zag (zae (T':=[(2,_)]) ⟨rfl,trivial⟩ ?_)
   refine zaw ?_
   refine zbd (ra,rc) 0 (zaC rfl (zbU (i:=2) (vs:=[_,_,_,_]) tf94 rfl rfl rfl rfl)) ?_ rfl
   rfl
end Go.Proofs.YtdcfcfhmkfkgmaaGreatDoor
namespace Go.Proofs.YtdcfcfhmkfkgmaaGreatDoor
open Go.K Go.Stn Go.Pln Go.RowKit
theorem zni:FO Tryz.prog 94 1 1:=⟨by kernel_rfl⟩
theorem af29:AF Tryz.prog 29 94 4 64 [.string ⟨#[]⟩,.string ⟨#[]⟩,.int IntKind.i64 0,.slice none 0 0]:=⟨Tryz.underlying29,by kernel_rfl,rfl⟩
theorem en47:En Tryz.prog 47:=za7 Tryz.func47 (by kernel_rfl) (by kernel_rfl)
theorem en48:En Tryz.prog 48:=za7 Tryz.func48 (by kernel_rfl) (by kernel_rfl)
theorem zn9 (x0:ByteArray) (x1:ByteArray) (w:World):(Instr.build 94 #[(0,.string x0),(1,.string x1)]).run Tryz.prog w=.ok (.agg #[.string x0,.string x1,.int IntKind.i64 0,.slice none 0 0]) w:=by kernel_rfl
theorem zsD (x0:WlC) (w:World):(Instr.buildSlice 29 1 #[(0,.agg #[.string x0.s.name,.string x0.s.sheet,.int .i64 x0.s.length,.slice x0.a x0.s.opens.length x0.cap])]).run Tryz.prog w=.ok (.slice (some ⟨w.heap.size,0,none⟩) 1 1) (w.alloc (.cells (([x0]:List (WlC)).flatMap zbS).toArray 94)):=by kernel_rfl
theorem zrR {q:Plan} (hq:OkQ q) (n:ByteArray):0≤(getS q.S n).height∧(getS q.S n).height≤3000:=by
 unfold getS
 split
 ·rename_i h
  have hl:zew q.S n < (q.S.length:Int):=Stn.findI_lt _ h
  have:=(zaZ (hq.sh _ (za0 (l:=q.S) (i:=(zew q.S n).toNat) (by omega)))).height
  omega
 ·exact⟨by decide,by decide⟩
set_option maxRecDepth 100000 in
set_option maxHeartbeats 8000000 in
theorem ztT (r:Nat) (ws:List ByteArray) (p:Nat) (q:Plan) (bp:Nat) (w:World) (B:Nat→Prop) (hB:∀ k,B k→k < w.heap.size) (hA:(SepR [Rdr 161 r ws,PlP p q]).A B w) (hq:OkQ q) (hb:Rd (fun k=>k < w.heap.size∧¬ B k) w (Box bp [.pointer (some ⟨p,0,none⟩)] 157)) (_hws:ws.length≤100000) :
  Calls Tryz.prog 112 #[.pointer (some ⟨r,0,none⟩),.pointer (some ⟨bp,0,none⟩)] w (zi5 33 (zb1 q ws) (fun _x (_:Unit)=>.tuple #[]) (fun x _=>PlP p x) (plAt yP p) B w):=by
 refine zby hB hA (vs:=[_,_]) Tryz.func112 rfl rfl (Nat.le_of_ble_eq_true rfl) ?_
 refine zbP ?_
 refine zac ?_
 refine zaa ?_
 refine gk_y rfl rfl (zaf rfl) ?_
 refine zbZ (res:=zes ws) 0 ztG rfl rfl rfl (fun w B hF=>zqa r ws w B (fun k hk=>(hF.own k hk).2) hF.A) (fun k hk7=>?_) (fun x7 m7 hx7=>?_)
 ·
  exact zbG 1 rfl zdy (by rw [zb1,hk7]; first | done | rfl)
 refine gk_y rfl rfl (zaf rfl) ?_
 refine zbZ (res:=zes x7.2) 0 ztG rfl rfl rfl (fun w B hF=>zqa r x7.2 w B (fun k hk=>(hF.own k hk).2) hF.A) (fun k hk9=>?_) (fun x9 m9 hx9=>?_)
 ·
  exact zbG 1 rfl zdy (by rw [zb1,hx7,zak,hk9]; first | done | rfl)
 refine gk_y rfl rfl (zaI rfl (zn9 _ _)) ?_
 refine zaG rfl rfl (zaL tf94 (zs:=[_,_,_,_]) rfl) fun b3=>?_
 refine zaA 0 tf94 rfl rfl (vs:=[_,_,_,_]) rfl rfl rfl rfl rfl ?_
 refine zag (zae (T':=[(0,_),(1,_),(3,_)]) ⟨rfl,rfl,rfl,trivial⟩ ?_)
 refine zac ?_
 refine zaa ?_
 refine gk_y rfl rfl (zaf rfl) ?_
 refine gk_y rfl rfl (zab zgo rfl) ?_
 refine zaG rfl rfl (zaD rfl (zed (b3,2)) zbj rfl) fun b13=>?_
 refine zao 1 rfl ?_
 refine zao 2 rfl ?_
 refine zbT 2 ?_
 refine zbZ (res:=zco 1 x9.2) 0 zpl rfl rfl rfl (fun w B hF=>zfl r x9.2 b3 [.string x7.1,.string x9.1,.int .i64 0,.slice none 0 0] 94 [2] [(b3,2)] _ _ w B (fun k hk=>(hF.own k hk).2) hF.A (zdX zbj (hF.other 0 rfl)) rfl (by intro o ho; simp at ho; simp; omega) (by simp [zaP])) (fun k hk14=>?_) (fun x14 m14 hx14=>?_)
 ·
  exact zbG 2 rfl zdy (by rw [zb1,hx7,zak,hx9,zak,hk14]; first | done | rfl)
 refine zbP ?_
 refine za2 (R':=Box b3 [.string x7.1,.string x9.1,.int .i64 ((x14.1).getD 0 0),.slice none 0 0] 94) 1 rfl (fun B w hA=>hA) ?_
 refine zaK 2 rfl ?_
 refine zag (zae (T':=[(0,_),(1,_),(3,_)]) ⟨rfl,rfl,rfl,trivial⟩ ?_)
 refine zac ?_
 refine zaa ?_
 refine gk_y rfl rfl (zaf rfl) ?_
 refine zbZ (res:=endE x14.2) 0 ztF rfl rfl rfl (fun w B hF=>ztK r x14.2 w B (fun k hk=>(hF.own k hk).2) hF.A) (fun k hk16=>?_) (fun x16 m16 hx16=>?_)
 ·
  exact zbG 2 rfl zdy (by rw [zb1,hx7,zak,hx9,zak,hx14,zak,hk16]; first | done | rfl)
 refine zag (zae (T':=[(1,_),(3,_)]) ⟨rfl,rfl,trivial⟩ ?_)
 refine zao 2 rfl ?_
 refine zgq fun sa sc S wa wc V hS hV=>?_
 have hlS:S.length=q.S.length:=by rw [←hS,List.length_map]
 have hlV:V.length=q.V.length:=by rw [←hV,List.length_map]
 have hq20:=hq.ls
 have hq50:=hq.lv
 refine zac ?_
 refine zf3 (ch [(9,Nat)]) 12 [0,1,3,0,8,31,63,127,127,0,767,2047] (fun _=>mixed) (by kernel_rfl) (zjK _ ⟨inferInstance,trivial⟩) ?_
 refine zbD (fun ρ=>zbW zg6 rfl (fun _ hw=>zaQ (Rd.has hb hw) rfl)) (fun ρ ρ' h=>by rfl) ?_
 refine zbD (fun ρ=>zbx rfl) (fun ρ ρ' h=>by rfl) ?_
 refine zbD (fun ρ=>zat 0 tf31 rfl rfl (vs:=[_,_]) rfl rfl) (fun ρ ρ' h=>by rfl) ?_
 refine zbD (fun ρ=>zab zni rfl) (fun ρ ρ' h=>by rfl) ?_
 refine zbD (fun ρ=>zah 6 tf9 rfl rfl rfl) (fun ρ ρ' h=>by rfl) ?_
 refine zbD (fun ρ=>zaJ en46 rfl (fun w hw=>zeu _ _ S _ _ _ x9.1 w (zam zbI (hw.has (p:=1) rfl)) (by unfold zaP; omega))) (fun ρ ρ' h=>by rfl) ?_
 refine zbD (fun ρ=>zaf rfl) (fun ρ ρ' h=>by rfl) ?_
 refine zbD (fun ρ=>zaB rfl rfl) (fun ρ ρ' h=>by rfl) ?_
 refine zbD (fun ρ=>zaB rfl rfl) (fun ρ ρ' h=>by rfl) ?_
 refine zgB (fun ρ=>zaL tf41 (zs:=[_,_,_,_,_,_,_,_,_,_,_,_,_,_,_,_,_,_,_,_]) rfl) (fun ρ ρ' h=>⟨by rfl,by rfl⟩) ?_
 refine zlr (R:=fun ρ=>Box (ρ 9) [.string ⟨#[]⟩,.int .i64 0,.int .i64 0,.int .i64 0,.int .i64 0,.slice none 0 0,.int .i64 0,.int .i64 0,.int .i64 0,.int .i64 0,.int .i64 0,.int .i64 0,.int .i64 0,.int .u8 0,.int .i64 0,.int .i64 0,.int .i64 0,.int .i64 0,.int .i64 0,.int .i64 0] 41) (A:=fun ρ=>Box (ρ 9) [.string (zav S x9.1).s.name,.int .i64 ((zav S x9.1).s.base),.int .i64 ((zav S x9.1).s.batter),.int .i64 ((zav S x9.1).s.height),.int .i64 ((zav S x9.1).s.skin),.slice (zav S x9.1).a (zav S x9.1).s.heights.length (zav S x9.1).cap,.int .i64 ((zav S x9.1).s.least),.int .i64 ((zav S x9.1).s.lap),.int .i64 ((zav S x9.1).s.run),.int .i64 ((zav S x9.1).s.every),.int .i64 ((zav S x9.1).s.at_),.int .i64 ((zav S x9.1).s.footing),.int .i64 ((zav S x9.1).s.spread),.int .u8 (zav S x9.1).s.cope,.int .i64 ((zav S x9.1).s.tall),.int .i64 ((zav S x9.1).s.short),.int .i64 ((zav S x9.1).s.thick),.int .i64 ((zav S x9.1).s.low),.int .i64 ((zav S x9.1).s.high),.int .i64 ((zav S x9.1).s.rood)] 41) 9 rfl rfl (fun _=>rfl) (fun ρ=>zex tf41 rfl rfl (vs:=[_,_,_,_,_,_,_,_,_,_,_,_,_,_,_,_,_,_,_,_]) rfl rfl rfl rfl rfl) (fun ρ ρ' h=>by(first | rfl | simp only [h 9 rfl])) ?_
 refine zbD (fun ρ=>zad rfl) (fun ρ ρ' h=>by rfl) ?_
 refine fun ρ=>zag (zf4 (X:=Nat) (ρ 9) (fun b4=>[(1,.pointer (some ⟨bp,0,none⟩)),(3,.pointer (some ⟨b3,0,none⟩)),(4,.pointer (some ⟨b4,0,none⟩)),(5,.bool (decide (0≤zaS S x9.1)))]) (fun b4=>[Box b4 [.string (zav S x9.1).s.name,.int .i64 ((zav S x9.1).s.base),.int .i64 ((zav S x9.1).s.batter),.int .i64 ((zav S x9.1).s.height),.int .i64 ((zav S x9.1).s.skin),.slice (zav S x9.1).a (zav S x9.1).s.heights.length (zav S x9.1).cap,.int .i64 ((zav S x9.1).s.least),.int .i64 ((zav S x9.1).s.lap),.int .i64 ((zav S x9.1).s.run),.int .i64 ((zav S x9.1).s.every),.int .i64 ((zav S x9.1).s.at_),.int .i64 ((zav S x9.1).s.footing),.int .i64 ((zav S x9.1).s.spread),.int .u8 (zav S x9.1).s.cope,.int .i64 ((zav S x9.1).s.tall),.int .i64 ((zav S x9.1).s.short),.int .i64 ((zav S x9.1).s.thick),.int .i64 ((zav S x9.1).s.low),.int .i64 ((zav S x9.1).s.high),.int .i64 ((zav S x9.1).s.rood)] 41,Box p [.slice sa S.length sc,.slice wa V.length wc] 31,Row sa 20 sc 41 zbH S,Go.K.Rows (rowH 3) S,Row wa 4 wc 94 zbS V,Go.K.Rows (rowO 98) V,Rdr 161 r x16.2,Box b3 [.string x7.1,.string x9.1,.int .i64 ((x14.1).getD 0 0),.slice none 0 0] 94]) ⟨rfl,rfl,rfl,rfl,trivial⟩ rfl ?_)
 rintro b4
 refine zac ?_
 refine zas ?_
 refine zac ?_
 refine zbb 8 (fun _=>mixed) (by kernel_rfl) ?_
 refine ph_y (zbW zg6 rfl (fun _ hw=>zaQ (Rd.has hb hw) rfl)) ?_
 refine ph_y (zbx rfl) ?_
 refine ph_y (zat 1 tf31 rfl rfl (vs:=[_,_]) rfl rfl) ?_
 refine ph_y (zab znh rfl) ?_
 refine ph_y (zah 7 tf9 rfl rfl rfl) ?_
 refine ph_y (zaJ en47 rfl (fun w hw=>zkg _ _ _ _ _ V x7.1 w (zam zbo (hw.has (p:=4) rfl)) (by unfold zaP; omega))) ?_
 refine ph_y (zfx rfl rfl) ?_
 refine ph_y (zad rfl) ?_
 refine zag (zae (T':=[(1,_),(3,_),(4,_),(5,_),(26,_)]) ⟨rfl,rfl,rfl,rfl,rfl,trivial⟩ ?_)
 refine zap rfl (fun hc26=>?_) (fun hc26=>?_)
 ·have h26:0≤zss q.V x7.1:=by have:=of_decide_eq_true hc26; rwa [zkx,hV] at this
  refine zaa ?_
  refine zcg en91 rfl (fun w hw=>zdk _ w) ?_
  exact zbG 1 rfl (zeb (y:=yP)) (by rw [zb1,hx7,zak,hx9,zak,hx14,zak,hx16,zak]; exact if_pos h26)
 ·have h26:¬ 0≤zss q.V x7.1:=by have:=of_decide_eq_false hc26; rwa [zkx,hV] at this
  refine zac ?_
  refine zaa ?_
  refine gk_y rfl rfl (zaf rfl) ?_
  refine gk_y rfl rfl (zbR rfl) ?_
  refine gk_y rfl rfl (zad rfl) ?_
  refine zag (zae (T':=[(1,_),(3,_),(4,_),(35,_)]) ⟨rfl,rfl,rfl,rfl,trivial⟩ ?_)
  refine zap rfl (fun hc35=>?_) (fun hc35=>?_)
  ·have h35:¬ 0≤zew q.S x9.1:=by have h:=hc35; rw [zeL,hS] at h; simpa using h
   refine zaa ?_
   refine zcg en91 rfl (fun w hw=>zdk _ w) ?_
   exact zbG 1 rfl (zeb (y:=yP)) (by rw [zb1,hx7,zak,hx9,zak,hx14,zak,hx16,zak]; exact(if_neg h26).trans (if_neg h35))
  ·have h35:0≤zew q.S x9.1:=by have h:=hc35; rw [zeL,hS] at h; simpa using h
   refine zac ?_
   refine zaa ?_
   refine gk_y rfl rfl (zat 7 tf94 rfl rfl (vs:=[_,_,_,_]) rfl rfl) ?_
   refine gk_y rfl rfl (zat 0 tf41 rfl rfl (vs:=[_,_,_,_,_,_,_,_,_,_,_,_,_,_,_,_,_,_,_,_]) rfl rfl) ?_
   refine gk_y rfl rfl (zaJ en48 rfl (fun w hw=>zmI none 0 (⟨x7.1,x9.1,(x14.1).getD 0 0,[]⟩:Wll) _ _ (zav S x9.1).s w ⟨fun _=>False,fun _ h=>h.elim,.inl rfl⟩ (Nat.le_refl _) (by simp [zaP]) (by intro o ho; cases ho) (by rw [zf2,hS]; exact zrR hq _))) ?_
   refine gk_y rfl rfl (zbR rfl) ?_
   refine gk_y rfl rfl (zad rfl) ?_
   refine zag (zae (T':=[(1,_),(3,_),(39,_)]) ⟨rfl,rfl,rfl,trivial⟩ ?_)
   refine zap rfl (fun hc39=>?_) (fun hc39=>?_)
   ·have h39:¬ zd1 (getS q.S x9.1).height ⟨x7.1,x9.1,(x14.1).getD 0 0,[]⟩=true:=by have h:=hc39; rw [zf2,hS] at h; simpa using h
    refine zaa ?_
    refine zcg en91 rfl (fun w hw=>zdk _ w) ?_
    exact zbG 1 rfl (zeb (y:=yP)) (by rw [zb1,hx7,zak,hx9,zak,hx14,zak,hx16,zak]; exact(if_neg h26).trans ((if_pos h35).trans (if_neg h39)))
   ·have h39:zd1 (getS q.S x9.1).height ⟨x7.1,x9.1,(x14.1).getD 0 0,[]⟩=true:=by have h:=hc39; rw [zf2,hS] at h; simpa using h
    refine zac ?_
    refine zaa ?_
    refine gk_y rfl rfl (zbW zg6 rfl (fun _ hw=>zaQ (Rd.has hb hw) rfl)) ?_
    refine gk_y rfl rfl (zbx rfl) ?_
    refine gk_y rfl rfl (zab zd7 rfl) ?_
    refine gk_y rfl rfl (zah 1 tf29 rfl rfl rfl) ?_
    refine gk_y rfl rfl (zaV (Tryz.underlying29) rfl) ?_
    refine gk_y rfl rfl (zbL rfl rfl) ?_
    refine gk_y rfl rfl (zad rfl) ?_
    refine zag (zae (T':=[(1,_),(3,_),(45,_)]) ⟨rfl,rfl,rfl,trivial⟩ ?_)
    refine zap rfl (fun hc45=>?_) (fun hc45=>?_)
    ·have h45:q.V.length=50:=by have:=of_decide_eq_true hc45; omega
     refine zaa ?_
     refine zcg en91 rfl (fun w hw=>zdk _ w) ?_
     exact zbG 1 rfl (zeb (y:=yP)) (by rw [zb1,hx7,zak,hx9,zak,hx14,zak,hx16,zak]; exact(if_neg h26).trans ((if_pos h35).trans ((if_pos h39).trans (if_pos h45))))
    ·have h45:¬ q.V.length=50:=by have:=of_decide_eq_false hc45; omega
     refine zaq ?_
     refine zjX (V:=fun z=>.slice z.1 ((V++[(⟨⟨x7.1,x9.1,((x14.1).getD 0 0),[]⟩,none,0⟩:WlC)])).length z.2) (R':=fun z:Option Addr×Nat=>Row z.1 4 z.2 94 zbS (V++[(⟨⟨x7.1,x9.1,((x14.1).getD 0 0),[]⟩,none,0⟩:WlC)])) (Bad:=fun _=>False) 7 [0] 4 60 (fun _=>mixed) rfl rfl (by kernel_rfl) rfl (fun _ hb=>hb.elim) rfl ?_
     refine zcf (zbW zg6 rfl (fun _ hw=>zaQ (Rd.has hb hw) rfl)) ?_
     refine zcf (zbW zg6 rfl (fun _ hw=>zaQ (Rd.has hb hw) rfl)) ?_
     refine zcf (zbx rfl) ?_
     refine zcf (zab zd7 rfl) ?_
     refine zcf (zah 1 tf29 rfl rfl rfl) ?_
     refine zcf (zat 7 tf94 rfl rfl (vs:=[_,_,_,_]) rfl rfl) ?_
     refine zqp (zaD rfl (zsD (⟨⟨x7.1,x9.1,((x14.1).getD 0 0),[]⟩,none,0⟩:WlC)) zbo rfl) ?_
     refine⟨fun b59=>zhN (m:=[(⟨⟨x7.1,x9.1,((x14.1).getD 0 0),[]⟩,none,0⟩:WlC)]) af29 zbo rfl rfl (fun _ hw=>(zam zbo (hw.has (p:=0) rfl))) (by first | omega | (simp only [List.length_cons,List.length_nil]; omega)) (by first | (unfold maxLen; omega) | (simp only [List.length_cons,List.length_nil,maxLen]; omega)),?_⟩
     intro z60
     intro b59
     refine zae (T':=[(53,_),(60,_)]) ⟨rfl,rfl,trivial⟩ ?_
     refine gk_y rfl rfl (zbx rfl) ?_
     refine gk_y rfl rfl (zab zd7 rfl) ?_
     refine zaA 2 tf29 rfl rfl (vs:=[_]) rfl rfl rfl rfl rfl ?_
     refine zag (zae (T':=[]) trivial ?_)
     refine zbB 98 zba 5 ?_
     refine zao 7 rfl ?_
     refine zbT 2 ?_
     refine za2 (R':=Go.K.Rows (rowO 98) (V++[(⟨⟨x7.1,x9.1,(x14.1).getD 0 0,[]⟩,none,0⟩:WlC)])) 0 rfl (fun B w hA=>zfr (f:=rowO 98) hA) ?_
     refine zao 6 rfl ?_
     refine zao 6 rfl ?_
     refine zao 6 rfl ?_
     refine zao 6 rfl ?_
     refine zgU (y:=yP) (q:=⟨q.S,q.V++[⟨x7.1,x9.1,(x14.1).getD 0 0,[]⟩]⟩) (hS) (by rw [List.map_append,hV]; rfl) ?_
     exact zik ⟨q.S,q.V++[⟨x7.1,x9.1,(x14.1).getD 0 0,[]⟩]⟩ () 0 (zcN rfl) rfl rfl (by rw [zb1,hx7,zak,hx9,zak,hx14,zak,hx16,zak]; exact(if_neg h26).trans ((if_pos h35).trans ((if_pos h39).trans (if_neg h45))))
end Go.Proofs.YtdcfcfhmkfkgmaaGreatDoor
namespace Go.Proofs.YtdcfcfhmkfkgmaaGreatDoor
open Go.K Go.Stn Go.Pln Go.RowKit
theorem zxv:SA Tryz.prog 138 9 5 1:=⟨Tryz.underlying138,by kernel_rfl⟩
theorem ztn (x0:Int) (w:World):(Instr.build 98 #[(0,.int .u8 x0)]).run Tryz.prog w=.ok (.agg #[.int .u8 x0,.int IntKind.i64 0,.int IntKind.i64 0,.int IntKind.i64 0,.int IntKind.i64 0]) w:=by kernel_rfl
theorem zts (x0:Nat×Nat) (x1:Nat×Nat) (x2:Nat×Nat) (x3:Nat×Nat) (w:World):(Instr.buildSlice 206 4 #[(0,.pointer (some ⟨x0.1,x0.2,none⟩)),(1,.pointer (some ⟨x1.1,x1.2,none⟩)),(2,.pointer (some ⟨x2.1,x2.2,none⟩)),(3,.pointer (some ⟨x3.1,x3.2,none⟩))]).run Tryz.prog w=.ok (.slice (some ⟨w.heap.size,0,none⟩) 4 4) (w.alloc (.cells (([x0,x1,x2,x3]:List (Nat×Nat)).flatMap zhZ).toArray 186)):=by kernel_rfl
theorem zqi {q:Plan} (hq:OkQ q) (n:ByteArray):0≤(getS q.S n).height∧(getS q.S n).height≤3000:=by
 unfold getS
 split
 ·rename_i h
  have hl:zew q.S n < (q.S.length:Int):=Stn.findI_lt _ h
  have:=(zaZ (hq.sh _ (za0 (l:=q.S) (i:=(zew q.S n).toNat) (by omega)))).height
  omega
 ·exact⟨by decide,by decide⟩
theorem zsY {q:Plan} {V:List WlC} (hV:V.map (·.s)=q.V) {i:Nat} (hi:i+1=V.length):(V.getD i default).s=q.V.getD (q.V.length - 1) default:=by
 rw [←hV,List.length_map,show V.length - 1=i from by omega,zeq (fun z:WlC=>z.s) rfl]
theorem zmh {q:Plan} {V:List WlC} (hq:OkQ q) (hV:V.map (·.s)=q.V) {i:Nat} (hi:i+1=V.length):(V.getD i default).s.opens.length≤20∧∀ o∈(V.getD i default).s.opens,Knd o:=by
 refine hq.wv _ ?_
 rw [←hV]
 exact List.mem_map_of_mem (za0 (by omega))
theorem zrI {v:Wll} {o:Opn} (h:∀ z∈v.opens,Knd z) (ho:Knd o):∀ z∈(more v o).opens,Knd z:=by
 intro z hz
 rcases List.mem_append.1 hz with h' | h'
 ·exact h z h'
 ·rw [List.mem_singleton] at h'; rw [h']; exact ho
theorem zrC {ws:List ByteArray} {x:Int×List ByteArray} (h:zfk opensW 1 ws=.ok x) (a b c d:Int):Knd ⟨x.1,a,b,c,d⟩:=by
 have hk:=znp h
 have:(opensW.length:Int)=5:=rfl
 exact⟨by dsimp only; omega,by dsimp only; omega⟩
theorem zxy {q:Plan} {V:List WlC} (hV:V.map (·.s)=q.V) {i:Nat} (hi:i+1=V.length) (o:Opn) (a:Option Addr) (c:Nat):(V.set i ⟨more (V.getD i default).s o,a,c⟩).map (·.s)=q.V.set (q.V.length - 1) (more (q.V.getD (q.V.length - 1) default) o):=by
 rw [List.map_set,hV,zsY hV hi,show q.V.length - 1=i from by rw [←hV,List.length_map]; omega]
theorem zwj {α:Type} [Inhabited α] {V:List α} {i:Nat} (hi:i+1=V.length) (x:α):(V.set i x).getD i default=x:=by
 rw [List.getD_eq_getElem?_getD,List.getElem?_set_self (by omega)]; rfl
theorem zot {α:Type} [Inhabited α] {f:α→Res} {V:List α} {i:Nat} {B:Nat→Prop} {w:World} (h:i+1=V.length) (hA:(Go.K.Rows f V).A B w):(SepR [Go.K.Rows f (V.take i),f (V.getD i default)]).A B w:=by
 have h1:=zqE (f:=f) (by omega) hA
 rwa [show V.length - 1=i from by omega] at h1
theorem zqF {α:Type} [Inhabited α] {f:α→Res} {V:List α} {i:Nat} {x:α} {B:Nat→Prop} {w:World} (h:i+1=V.length) (hA:(SepR [Go.K.Rows f (V.take i),f x]).A B w):(Go.K.Rows f (V.set i x)).A B w:=by
 have h0:V.length - 1=i:=by omega
 have h1:=zsc (f:=f) (V:=V) (x:=x) (by omega) (by rw [h0]; exact hA)
 rwa [h0] at h1
set_option maxRecDepth 100000 in
set_option maxHeartbeats 8000000 in
theorem ztU (r:Nat) (ws:List ByteArray) (p:Nat) (q:Plan) (bp:Nat) (w:World) (B:Nat→Prop) (hB:∀ k,B k→k < w.heap.size) (hA:(SepR [Rdr 161 r ws,PlP p q]).A B w) (hq:OkQ q) (hb:Rd (fun k=>k < w.heap.size∧¬ B k) w (Box bp [.pointer (some ⟨p,0,none⟩)] 157)) (_hws:ws.length≤100000) (hop:Rd (fun k=>k < w.heap.size∧¬ B k) w (zaW (some ⟨1,0,none⟩) 1 encS opensW)) :
  Calls Tryz.prog 115 #[.pointer (some ⟨r,0,none⟩),.pointer (some ⟨bp,0,none⟩)] w (zi5 33 (zch q ws) (fun _x (_:Unit)=>.tuple #[]) (fun x _=>PlP p x) (plAt yP p) B w):=by
 refine zby hB hA (vs:=[_,_]) Tryz.func115 rfl rfl (Nat.le_of_ble_eq_true rfl) ?_
 refine zbP ?_
 refine zac ?_
 refine zaa ?_
 refine gk_y rfl rfl (zaf rfl) ?_
 refine gk_y rfl rfl (zjB zxv rfl) ?_
 refine zbZ (res:=zfk opensW 1 ws) 0 zvS rfl rfl rfl (fun w B hF=>zsX r ws (some ⟨1,0,none⟩) 5 opensW 1 w B (fun k hk=>(hF.own k hk).2) hF.A (hF.rd hop) (by decide) (by decide) (by decide)) (fun k hk9=>?_) (fun x9 m9 hx9=>?_)
 ·
  exact zbG 1 rfl zdy (by rw [zch,hk9]; first | done | rfl)
 refine gk_y rfl rfl (zaI rfl (ztn _)) ?_
 refine zaG rfl rfl (zaL tf98 (zs:=[_,_,_,_,_]) rfl) fun b3=>?_
 refine zaA 0 tf98 rfl rfl (vs:=[_,_,_,_,_]) rfl rfl rfl rfl rfl ?_
 refine zag (zae (T':=[(0,_),(1,_),(3,_)]) ⟨rfl,rfl,rfl,trivial⟩ ?_)
 refine zac ?_
 refine zaa ?_
 refine gk_y rfl rfl (zaf rfl) ?_
 refine gk_y rfl rfl (zab zhf rfl) ?_
 refine gk_y rfl rfl (zab zji rfl) ?_
 refine gk_y rfl rfl (zab zfe rfl) ?_
 refine gk_y rfl rfl (zab zhg rfl) ?_
 refine zaG rfl rfl (zaD rfl (zts (b3,1) (b3,2) (b3,3) (b3,4)) zbj rfl) fun b16=>?_
 refine zao 1 rfl ?_
 refine zao 2 rfl ?_
 refine zbT 2 ?_
 refine zbZ (res:=zco 4 x9.2) 0 zpl rfl rfl rfl (fun w B hF=>zfl r x9.2 b3 [.int .u8 x9.1,.int .i64 0,.int .i64 0,.int .i64 0,.int .i64 0] 98 [1,2,3,4] [(b3,1),(b3,2),(b3,3),(b3,4)] _ _ w B (fun k hk=>(hF.own k hk).2) hF.A (zdX zbj (hF.other 0 rfl)) rfl (by intro o ho; simp at ho; simp; omega) (by simp [zaP])) (fun k hk17=>?_) (fun x17 m17 hx17=>?_)
 ·
  exact zbG 2 rfl zdy (by rw [zch,hx9,zak,hk17]; first | done | rfl)
 refine zbP ?_
 refine za2 (R':=Box b3 [.int .u8 x9.1,.int .i64 ((x17.1).getD 0 0),.int .i64 (((x17.1.drop 1)).getD 0 0),.int .i64 ((((x17.1.drop 1).drop 1)).getD 0 0),.int .i64 (((((x17.1.drop 1).drop 1).drop 1)).getD 0 0)] 98) 1 rfl (fun B w hA=>hA) ?_
 refine zaK 2 rfl ?_
 refine zag (zae (T':=[(0,_),(1,_),(3,_)]) ⟨rfl,rfl,rfl,trivial⟩ ?_)
 refine zac ?_
 refine zaa ?_
 refine gk_y rfl rfl (zaf rfl) ?_
 refine zbZ (res:=endE x17.2) 0 ztF rfl rfl rfl (fun w B hF=>ztK r x17.2 w B (fun k hk=>(hF.own k hk).2) hF.A) (fun k hk19=>?_) (fun x19 m19 hx19=>?_)
 ·
  exact zbG 2 rfl zdy (by rw [zch,hx9,zak,hx17,zak,hk19]; first | done | rfl)
 refine zag (zae (T':=[(1,_),(3,_)]) ⟨rfl,rfl,trivial⟩ ?_)
 refine zao 2 rfl ?_
 refine zgq fun sa sc S wa wc V hS hV=>?_
 have hlS:S.length=q.S.length:=by rw [←hS,List.length_map]
 have hlV:V.length=q.V.length:=by rw [←hV,List.length_map]
 have hq20:=hq.ls
 have hq50:=hq.lv
 refine zac ?_
 refine zac ?_
 refine zaa ?_
 refine gk_y rfl rfl (zbW zg6 rfl (fun _ hw=>zaQ (Rd.has hb hw) rfl)) ?_
 refine gk_y rfl rfl (zbx rfl) ?_
 refine gk_y rfl rfl (zab zd7 rfl) ?_
 refine gk_y rfl rfl (zah 0 tf29 rfl rfl rfl) ?_
 refine gk_y rfl rfl (zaV (Tryz.underlying29) rfl) ?_
 refine gk_y rfl rfl (zbL rfl rfl) ?_
 refine zag (zae (T':=[(1,_),(3,_),(25,_)]) ⟨rfl,rfl,rfl,trivial⟩ ?_)
 refine zap rfl (fun hc25=>?_) (fun hc25=>?_)
 ·have h25:q.V.length=0:=by have:=of_decide_eq_true hc25; omega
  refine zaa ?_
  refine zcg en91 rfl (fun w hw=>zdk _ w) ?_
  exact zbG 0 rfl (zeb (y:=yP)) (by rw [zch,hx9,zak,hx17,zak,hx19,zak]; exact if_pos h25)
 ·have h25:¬ q.V.length=0:=by have:=of_decide_eq_false hc25; omega
  refine zaq ?_
  refine zac ?_
  refine zbb 12 (fun _=>mixed) (by kernel_rfl) ?_
  refine ph_y (zbW zg6 rfl (fun _ hw=>zaQ (Rd.has hb hw) rfl)) ?_
  refine ph_y (zbx rfl) ?_
  refine ph_y (zab zd7 rfl) ?_
  refine ph_y (zah 0 tf29 rfl rfl rfl) ?_
  refine ph_y (zbW zg6 rfl (fun _ hw=>zaQ (Rd.has hb hw) rfl)) ?_
  refine ph_y (zbx rfl) ?_
  refine ph_y (zab zd7 rfl) ?_
  refine ph_y (zah 0 tf29 rfl rfl rfl) ?_
  refine ph_y (zaV (Tryz.underlying29) rfl) ?_
  refine ph_y (zfV rfl rfl (by omega) (by omega)) ?_
  refine ph_y (zaE se29 rfl rfl (fun _ hw=>(zam zbo (hw.has (p:=3) rfl))) (by omega) (by omega)) ?_
  refine ph_y (zad rfl) ?_
  refine zag (zae (T':=[(1,_),(3,_),(4,_)]) ⟨rfl,rfl,rfl,trivial⟩ ?_)
  have hi0:((V.length:Int) - 1).toNat+1=V.length:=by omega
  refine zac ?_
  refine zf3 (ch [(11,Nat)]) 14 [0,1,3,0,8,24,56,127,255,511,511,0,3071,8191] (fun _=>mixed) (by kernel_rfl) (zjK _ ⟨inferInstance,trivial⟩) ?_
  refine zbD (fun ρ=>zbW zg6 rfl (fun _ hw=>zaQ (Rd.has hb hw) rfl)) (fun ρ ρ' h=>by rfl) ?_
  refine zbD (fun ρ=>zbx rfl) (fun ρ ρ' h=>by rfl) ?_
  refine zbD (fun ρ=>zat 0 tf31 rfl rfl (vs:=[_,_]) rfl rfl) (fun ρ ρ' h=>by rfl) ?_
  refine zbD (fun ρ=>zaf rfl) (fun ρ ρ' h=>by rfl) ?_
  refine zbD (fun ρ=>zeP rfl (fun w hw=>zaO (i:=((V.length:Int) - 1)) (zam zbo (hw.has (p:=3) rfl)) (by omega) (by omega))) (fun ρ ρ' h=>by rfl) ?_
  refine zbD (fun ρ=>zbh zni rfl (fun w hw=>zaO (i:=((V.length:Int) - 1)) (zam zbo (hw.has (p:=3) rfl)) (by omega) (by omega))) (fun ρ ρ' h=>by rfl) ?_
  refine zbD (fun ρ=>zbn tf9 rfl (fun _ hw=>(zam zbo (hw.has (p:=3) rfl))) (by omega) (by omega) rfl) (fun ρ ρ' h=>by rfl) ?_
  refine zbD (fun ρ=>zaJ en46 rfl (fun w hw=>zeu _ _ S _ _ _ ((V.getD (((V.length:Int) - 1)).toNat default).s.sheet) w (zam zbI (hw.has (p:=1) rfl)) (by unfold zaP; omega))) (fun ρ ρ' h=>by rfl) ?_
  refine zbD (fun ρ=>zaf rfl) (fun ρ ρ' h=>by rfl) ?_
  refine zbD (fun ρ=>zaB rfl rfl) (fun ρ ρ' h=>by rfl) ?_
  refine zbD (fun ρ=>zaB rfl rfl) (fun ρ ρ' h=>by rfl) ?_
  refine zgB (fun ρ=>zaL tf41 (zs:=[_,_,_,_,_,_,_,_,_,_,_,_,_,_,_,_,_,_,_,_]) rfl) (fun ρ ρ' h=>⟨by rfl,by rfl⟩) ?_
  refine zlr (R:=fun ρ=>Box (ρ 11) [.string ⟨#[]⟩,.int .i64 0,.int .i64 0,.int .i64 0,.int .i64 0,.slice none 0 0,.int .i64 0,.int .i64 0,.int .i64 0,.int .i64 0,.int .i64 0,.int .i64 0,.int .i64 0,.int .u8 0,.int .i64 0,.int .i64 0,.int .i64 0,.int .i64 0,.int .i64 0,.int .i64 0] 41) (A:=fun ρ=>Box (ρ 11) [.string (zav S ((V.getD (((V.length:Int) - 1)).toNat default).s.sheet)).s.name,.int .i64 ((zav S ((V.getD (((V.length:Int) - 1)).toNat default).s.sheet)).s.base),.int .i64 ((zav S ((V.getD (((V.length:Int) - 1)).toNat default).s.sheet)).s.batter),.int .i64 ((zav S ((V.getD (((V.length:Int) - 1)).toNat default).s.sheet)).s.height),.int .i64 ((zav S ((V.getD (((V.length:Int) - 1)).toNat default).s.sheet)).s.skin),.slice (zav S ((V.getD (((V.length:Int) - 1)).toNat default).s.sheet)).a (zav S ((V.getD (((V.length:Int) - 1)).toNat default).s.sheet)).s.heights.length (zav S ((V.getD (((V.length:Int) - 1)).toNat default).s.sheet)).cap,.int .i64 ((zav S ((V.getD (((V.length:Int) - 1)).toNat default).s.sheet)).s.least),.int .i64 ((zav S ((V.getD (((V.length:Int) - 1)).toNat default).s.sheet)).s.lap),.int .i64 ((zav S ((V.getD (((V.length:Int) - 1)).toNat default).s.sheet)).s.run),.int .i64 ((zav S ((V.getD (((V.length:Int) - 1)).toNat default).s.sheet)).s.every),.int .i64 ((zav S ((V.getD (((V.length:Int) - 1)).toNat default).s.sheet)).s.at_),.int .i64 ((zav S ((V.getD (((V.length:Int) - 1)).toNat default).s.sheet)).s.footing),.int .i64 ((zav S ((V.getD (((V.length:Int) - 1)).toNat default).s.sheet)).s.spread),.int .u8 (zav S ((V.getD (((V.length:Int) - 1)).toNat default).s.sheet)).s.cope,.int .i64 ((zav S ((V.getD (((V.length:Int) - 1)).toNat default).s.sheet)).s.tall),.int .i64 ((zav S ((V.getD (((V.length:Int) - 1)).toNat default).s.sheet)).s.short),.int .i64 ((zav S ((V.getD (((V.length:Int) - 1)).toNat default).s.sheet)).s.thick),.int .i64 ((zav S ((V.getD (((V.length:Int) - 1)).toNat default).s.sheet)).s.low),.int .i64 ((zav S ((V.getD (((V.length:Int) - 1)).toNat default).s.sheet)).s.high),.int .i64 ((zav S ((V.getD (((V.length:Int) - 1)).toNat default).s.sheet)).s.rood)] 41) 11 rfl rfl (fun _=>rfl) (fun ρ=>zex tf41 rfl rfl (vs:=[_,_,_,_,_,_,_,_,_,_,_,_,_,_,_,_,_,_,_,_]) rfl rfl rfl rfl rfl) (fun ρ ρ' h=>by(first | rfl | simp only [h 11 rfl])) ?_
  refine zbD (fun ρ=>zad rfl) (fun ρ ρ' h=>by rfl) ?_
  refine fun ρ=>zag (zf4 (X:=Nat) (ρ 11) (fun b5=>[(3,.pointer (some ⟨b3,0,none⟩)),(4,(epx wa (((V.length:Int) - 1).toNat*4))),(5,.pointer (some ⟨b5,0,none⟩))]) (fun b5=>[Box b5 [.string (zav S ((V.getD (((V.length:Int) - 1)).toNat default).s.sheet)).s.name,.int .i64 ((zav S ((V.getD (((V.length:Int) - 1)).toNat default).s.sheet)).s.base),.int .i64 ((zav S ((V.getD (((V.length:Int) - 1)).toNat default).s.sheet)).s.batter),.int .i64 ((zav S ((V.getD (((V.length:Int) - 1)).toNat default).s.sheet)).s.height),.int .i64 ((zav S ((V.getD (((V.length:Int) - 1)).toNat default).s.sheet)).s.skin),.slice (zav S ((V.getD (((V.length:Int) - 1)).toNat default).s.sheet)).a (zav S ((V.getD (((V.length:Int) - 1)).toNat default).s.sheet)).s.heights.length (zav S ((V.getD (((V.length:Int) - 1)).toNat default).s.sheet)).cap,.int .i64 ((zav S ((V.getD (((V.length:Int) - 1)).toNat default).s.sheet)).s.least),.int .i64 ((zav S ((V.getD (((V.length:Int) - 1)).toNat default).s.sheet)).s.lap),.int .i64 ((zav S ((V.getD (((V.length:Int) - 1)).toNat default).s.sheet)).s.run),.int .i64 ((zav S ((V.getD (((V.length:Int) - 1)).toNat default).s.sheet)).s.every),.int .i64 ((zav S ((V.getD (((V.length:Int) - 1)).toNat default).s.sheet)).s.at_),.int .i64 ((zav S ((V.getD (((V.length:Int) - 1)).toNat default).s.sheet)).s.footing),.int .i64 ((zav S ((V.getD (((V.length:Int) - 1)).toNat default).s.sheet)).s.spread),.int .u8 (zav S ((V.getD (((V.length:Int) - 1)).toNat default).s.sheet)).s.cope,.int .i64 ((zav S ((V.getD (((V.length:Int) - 1)).toNat default).s.sheet)).s.tall),.int .i64 ((zav S ((V.getD (((V.length:Int) - 1)).toNat default).s.sheet)).s.short),.int .i64 ((zav S ((V.getD (((V.length:Int) - 1)).toNat default).s.sheet)).s.thick),.int .i64 ((zav S ((V.getD (((V.length:Int) - 1)).toNat default).s.sheet)).s.low),.int .i64 ((zav S ((V.getD (((V.length:Int) - 1)).toNat default).s.sheet)).s.high),.int .i64 ((zav S ((V.getD (((V.length:Int) - 1)).toNat default).s.sheet)).s.rood)] 41,Box p [.slice sa S.length sc,.slice wa V.length wc] 31,Row sa 20 sc 41 zbH S,Go.K.Rows (rowH 3) S,Row wa 4 wc 94 zbS V,Go.K.Rows (rowO 98) V,Rdr 161 r x19.2,Box b3 [.int .u8 x9.1,.int .i64 ((x17.1).getD 0 0),.int .i64 (((x17.1.drop 1)).getD 0 0),.int .i64 ((((x17.1.drop 1).drop 1)).getD 0 0),.int .i64 (((((x17.1.drop 1).drop 1).drop 1)).getD 0 0)] 98]) ⟨rfl,rfl,rfl,trivial⟩ rfl ?_)
  rintro b5
  refine zao 5 rfl ?_
  refine za2 (R':=SepR [Go.K.Rows (rowO 98) (V.take ((V.length:Int) - 1).toNat),Row (V.getD ((V.length:Int) - 1).toNat default).a 5 (V.getD ((V.length:Int) - 1).toNat default).cap 98 zba (V.getD ((V.length:Int) - 1).toNat default).s.opens]) 0 rfl (fun B w hA=>zot (f:=rowO 98) hi0 hA) ?_
  refine zbP ?_
  have hlo:=(zmh hq hV hi0).1
  refine zac ?_
  refine zjX (V:=fun z=>.slice z.1 (((V.getD ((V.length:Int) - 1).toNat default).s.opens++[(⟨x9.1,((x17.1).getD 0 0),(((x17.1.drop 1)).getD 0 0),((((x17.1.drop 1).drop 1)).getD 0 0),(((((x17.1.drop 1).drop 1).drop 1)).getD 0 0)⟩:Opn)])).length z.2) (R':=fun z:Option Addr×Nat=>Row z.1 5 z.2 98 zba ((V.getD ((V.length:Int) - 1).toNat default).s.opens++[(⟨x9.1,((x17.1).getD 0 0),(((x17.1.drop 1)).getD 0 0),((((x17.1.drop 1).drop 1)).getD 0 0),(((((x17.1.drop 1).drop 1).drop 1)).getD 0 0)⟩:Opn)])) (Bad:=fun _=>False) 7 [0] 1 56 (fun _=>mixed) rfl rfl (by kernel_rfl) rfl (fun _ hb=>hb.elim) rfl ?_
  refine zcf (zaf rfl) ?_
  refine zcf (zaf rfl) ?_
  refine zcf (zeP rfl (fun w hw=>zaO (i:=((V.length:Int) - 1)) (zam zbo (hw.has (p:=6) rfl)) (by omega) (by omega))) ?_
  refine zcf (zbh zhe rfl (fun w hw=>zaO (i:=((V.length:Int) - 1)) (zam zbo (hw.has (p:=6) rfl)) (by omega) (by omega))) ?_
  refine zcf (zbn tf92 rfl (fun _ hw=>(zam zbo (hw.has (p:=6) rfl))) (by omega) (by omega) rfl) ?_
  refine zcf (zat 8 tf98 rfl rfl (vs:=[_,_,_,_,_]) rfl rfl) ?_
  refine zqp (zaD rfl (zo2 _ _ _ _ _) encOpn_ok rfl) ?_
  refine⟨fun b55=>zhN (m:=[(⟨x9.1,((x17.1).getD 0 0),(((x17.1.drop 1)).getD 0 0),((((x17.1.drop 1).drop 1)).getD 0 0),(((((x17.1.drop 1).drop 1).drop 1)).getD 0 0)⟩:Opn)]) af92 encOpn_ok rfl rfl (fun _ hw=>(zam encOpn_ok (hw.has (p:=0) rfl))) (by first | omega | (simp only [List.length_cons,List.length_nil]; omega)) (by first | (unfold maxLen; omega) | (simp only [List.length_cons,List.length_nil,maxLen]; omega)),?_⟩
  intro z56
  intro b55
  refine zae (T':=[(4,_),(5,_),(49,_),(56,_)]) ⟨rfl,rfl,rfl,rfl,trivial⟩ ?_
  refine gk_y rfl rfl (zeP rfl (fun w hw=>zaO (i:=((V.length:Int) - 1)) (zam zbo (hw.has (p:=7) rfl)) (by omega) (by omega))) ?_
  refine gk_y rfl rfl (zbh zhe rfl (fun w hw=>zaO (i:=((V.length:Int) - 1)) (zam zbo (hw.has (p:=7) rfl)) (by omega) (by omega))) ?_
  refine zfG (x':=(⟨more (V.getD (((V.length:Int) - 1)).toNat default).s (⟨x9.1,(x17.1).getD 0 0,((x17.1).drop 1).getD 0 0,(((x17.1).drop 1).drop 1).getD 0 0,((((x17.1).drop 1).drop 1).drop 1).getD 0 0⟩:Opn),z56.1,z56.2⟩:WlC)) 7 zbo tf92 rfl rfl (vs:=[_]) rfl rfl (by decide) rfl rfl (by omega) (by omega) ?_
  refine zag (zae (T':=[(4,_),(5,_)]) ⟨rfl,rfl,trivial⟩ ?_)
  have hY:((V.set ((V.length:Int) - 1).toNat (⟨more (V.getD ((V.length:Int) - 1).toNat default).s (⟨x9.1,(x17.1).getD 0 0,((x17.1).drop 1).getD 0 0,(((x17.1).drop 1).drop 1).getD 0 0,((((x17.1).drop 1).drop 1).drop 1).getD 0 0⟩:Opn),z56.1,z56.2⟩:WlC)).getD ((V.length:Int) - 1).toNat default)=⟨more (V.getD ((V.length:Int) - 1).toNat default).s (⟨x9.1,(x17.1).getD 0 0,((x17.1).drop 1).getD 0 0,(((x17.1).drop 1).drop 1).getD 0 0,((((x17.1).drop 1).drop 1).drop 1).getD 0 0⟩:Opn),z56.1,z56.2⟩:=zwj hi0 _
  have hlN:(V.set ((V.length:Int) - 1).toNat (⟨more (V.getD ((V.length:Int) - 1).toNat default).s (⟨x9.1,(x17.1).getD 0 0,((x17.1).drop 1).getD 0 0,(((x17.1).drop 1).drop 1).getD 0 0,((((x17.1).drop 1).drop 1).drop 1).getD 0 0⟩:Opn),z56.1,z56.2⟩:WlC)).length=V.length:=List.length_set
  refine zac ?_
  refine zbb 6 (fun _=>mixed) (by kernel_rfl) ?_
  refine ph_y (zaf rfl) ?_
  refine ph_y (zeP rfl (fun w hw=>zaO (i:=((V.length:Int) - 1)) (zam zbo (hw.has (p:=7) rfl)) (by omega) (by omega))) ?_
  refine ph_y (zbv (vs:=[_,_,_,_]) tf94 rfl (fun _ hw=>(zam zbo (hw.has (p:=7) rfl))) (by omega) (by omega) rfl) ?_
  refine ph_y (zat 3 tf41 rfl rfl (vs:=[_,_,_,_,_,_,_,_,_,_,_,_,_,_,_,_,_,_,_,_]) rfl rfl) ?_
  refine ph_y (zaJ en48 rfl (fun w hw=>zmI _ _ ((V.set ((V.length:Int) - 1).toNat (⟨more (V.getD ((V.length:Int) - 1).toNat default).s (⟨x9.1,(x17.1).getD 0 0,((x17.1).drop 1).getD 0 0,(((x17.1).drop 1).drop 1).getD 0 0,((((x17.1).drop 1).drop 1).drop 1).getD 0 0⟩:Opn),z56.1,z56.2⟩:WlC)).getD ((V.length:Int) - 1).toNat default).s _ _ (zav S (V.getD ((V.length:Int) - 1).toNat default).s.sheet).s w (by rw [hY]; exact(zam encOpn_ok (hw.has (p:=2) rfl))) (by rw [hY]; exact zcM (hw.has (p:=2) rfl)) (by rw [hY]; have:=(zmh hq hV hi0).1; unfold zaP more; simp only [List.length_append,List.length_cons,List.length_nil]; omega) (by rw [hY]; exact zrI (zmh hq hV hi0).2 (zrC hx9 _ _ _ _)) (by rw [zf2,hS]; exact zqi hq _))) ?_
  refine ph_y (zbR rfl) ?_
  refine zag (zae (T':=[(64,_)]) ⟨rfl,trivial⟩ ?_)
  refine zao 2 rfl ?_
  refine zao 2 rfl ?_
  refine zbT 2 ?_
  refine za2 (R':=Go.K.Rows (rowO 98) (V.set ((V.length:Int) - 1).toNat (⟨more (V.getD ((V.length:Int) - 1).toNat default).s (⟨x9.1,(x17.1).getD 0 0,((x17.1).drop 1).getD 0 0,(((x17.1).drop 1).drop 1).getD 0 0,((((x17.1).drop 1).drop 1).drop 1).getD 0 0⟩:Opn),z56.1,z56.2⟩:WlC))) 0 rfl (fun B w hA=>zqF (f:=rowO 98) hi0 hA) ?_
  refine za2 (R':=Box p [.slice sa S.length sc,.slice wa (V.set ((V.length:Int) - 1).toNat (⟨more (V.getD ((V.length:Int) - 1).toNat default).s (⟨x9.1,(x17.1).getD 0 0,((x17.1).drop 1).getD 0 0,(((x17.1).drop 1).drop 1).getD 0 0,((((x17.1).drop 1).drop 1).drop 1).getD 0 0⟩:Opn),z56.1,z56.2⟩:WlC)).length wc] 31) 3 rfl (fun B w hA=>by rw [hlN]; exact hA) ?_
  refine zao 6 rfl ?_
  refine zao 6 rfl ?_
  refine zao 6 rfl ?_
  refine zao 6 rfl ?_
  refine zgU (y:=yP) (q:=⟨q.S,q.V.set (q.V.length - 1) (more (q.V.getD (q.V.length - 1) default) (⟨x9.1,(x17.1).getD 0 0,((x17.1).drop 1).getD 0 0,(((x17.1).drop 1).drop 1).getD 0 0,((((x17.1).drop 1).drop 1).drop 1).getD 0 0⟩:Opn))⟩) (hS) (zxy hV hi0 _ _ _) ?_
  rw [zf2,hS,hY,zsY hV hi0]
  refine zap rfl (fun hc64=>?_) (fun hc64=>?_)
  ·have h64:¬ zd1 (getS q.S (q.V.getD (q.V.length - 1) default).sheet).height (more (q.V.getD (q.V.length - 1) default) (⟨x9.1,(x17.1).getD 0 0,((x17.1).drop 1).getD 0 0,(((x17.1).drop 1).drop 1).getD 0 0,((((x17.1).drop 1).drop 1).drop 1).getD 0 0⟩:Opn))=true:=by simpa using hc64
   refine zaa ?_
   refine zcg en91 rfl (fun w hw=>zdk _ w) ?_
   exact zbG 0 rfl zdy (by rw [zch,hx9,zak,hx17,zak,hx19,zak]; exact(if_neg h25).trans (if_neg h64))
  ·have h64:zd1 (getS q.S (q.V.getD (q.V.length - 1) default).sheet).height (more (q.V.getD (q.V.length - 1) default) (⟨x9.1,(x17.1).getD 0 0,((x17.1).drop 1).getD 0 0,(((x17.1).drop 1).drop 1).getD 0 0,((((x17.1).drop 1).drop 1).drop 1).getD 0 0⟩:Opn))=true:=by simpa using hc64
   refine zaq ?_
   exact zik ⟨q.S,q.V.set (q.V.length - 1) (more (q.V.getD (q.V.length - 1) default) (⟨x9.1,(x17.1).getD 0 0,((x17.1).drop 1).getD 0 0,(((x17.1).drop 1).drop 1).getD 0 0,((((x17.1).drop 1).drop 1).drop 1).getD 0 0⟩:Opn))⟩ () 0 (zcN rfl) rfl rfl (by rw [zch,hx9,zak,hx17,zak,hx19,zak]; exact(if_neg h25).trans (if_pos h64))
end Go.Proofs.YtdcfcfhmkfkgmaaGreatDoor
namespace Go.Proofs.YtdcfcfhmkfkgmaaGreatDoor
open Go.K Go.Stn Go.Pln Go.RowKit
theorem tf33:TF Tryz.prog 33 false 1 (.int IntKind.i64 0):=⟨by kernel_rfl,by kernel_rfl⟩
theorem zrJ:MT Tryz.prog 164 9 162 1 false (.nilFunc):=⟨Tryz.underlying164,Tryz.underlying9,⟨by kernel_rfl,by kernel_rfl⟩⟩
set_option maxRecDepth 100000 in
theorem zdn {c:Cx} (hP:c.P=Tryz.prog) {H:List Res} {b:Nat} {k0 k:Int} {w:World} (hw:Hp c.U c.w0 (Box b [.int .i64 k0] 33 :: H) w) :
  CallsDIn Fence.wide 0 c.P 87 [.pointer (some ⟨b,0,none⟩)].toArray (.panicking (thrC (errT 33 k))) w (fun e u' w'=>(∃ v,e=.returned v)∧settle u' = .returning∧Hp c.U c.w0 (Box b [.int .i64 k] 33 :: H) w'):=by
 rw [hP]
 refine CallsDIn.mono (zfR (c:=⟨none,Tryz.prog,11,c.U,c.w0⟩) (H':=Box b [.int .i64 k] 33 :: H) (vs:=[_]) rfl Tryz.func87 rfl rfl (Nat.le_of_ble_eq_true rfl) (Nat.le_of_ble_eq_true rfl) (fun c₀ cs h=>.inl (zor c₀ cs h)) hw ?_) ?_
 ·refine zas ?_
  refine zac ?_
  refine zaa ?_
  refine gk_y rfl rfl (zjA (by first | exact Tryz.underlying20 | kernel_rfl) rfl (.inr ⟨_,_,rfl⟩)) ?_
  refine zag (zae (T':=[(0,_),(4,_),(6,_)]) ⟨rfl,rfl,rfl,trivial⟩ ?_)
  refine zd8 rfl ?_
  refine zac ?_
  refine zaa ?_
  refine gk_y rfl rfl (zlN if33 rfl) ?_
  refine gk_y rfl rfl (zaB rfl rfl) ?_
  refine gk_y rfl rfl (zaB rfl rfl) ?_
  refine zag (zae (T':=[(0,_),(8,_),(9,_)]) ⟨rfl,rfl,rfl,trivial⟩ ?_)
  refine zdg rfl ?_
  refine zac ?_
  refine zaa ?_
  refine gk_y rfl rfl (zad rfl) ?_
  refine zag (zae (T':=[(0,_),(2,_)]) ⟨rfl,rfl,trivial⟩ ?_)
  refine zaa ?_
  refine gk_y rfl rfl (zaf rfl) ?_
  refine zaA 0 tf33 rfl rfl (vs:=[_]) rfl rfl rfl rfl rfl ?_
  refine zag ?_
  exact zvZ (zcN rfl)
 ·rintro e u w' ⟨h1,rfl,h3⟩
  exact⟨h1,zov,h3⟩
set_option maxRecDepth 100000 in
theorem zgX {c:Cx} (hP:c.P=Tryz.prog) {H:List Res} {b:Nat} {w:World} (hw:Hp c.U c.w0 H w) :
  CallsDIn Fence.wide 0 c.P 87 [.pointer (some ⟨b,0,none⟩)].toArray .returning w (fun e u' w'=>(∃ v,e=.returned v)∧settle u' = .returning∧Hp c.U c.w0 H w'):=by
 rw [hP]
 refine CallsDIn.mono (zfR (c:=⟨none,Tryz.prog,11,c.U,c.w0⟩) (H':=H) (vs:=[_]) rfl Tryz.func87 rfl rfl (Nat.le_of_ble_eq_true rfl) (Nat.le_of_ble_eq_true rfl) (fun c₀ cs h=>.inr ⟨zkk c₀ cs h,rfl,rfl⟩) hw ?_) ?_
 ·refine zas ?_
  refine zac ?_
  refine zaa ?_
  refine gk_y rfl rfl (zjA (by first | exact Tryz.underlying20 | kernel_rfl) rfl (.inl rfl)) ?_
  refine zag (zae (T':=[(0,_),(4,_),(6,_)]) ⟨rfl,rfl,rfl,trivial⟩ ?_)
  refine zdg rfl ?_
  refine zaa ?_
  refine gk_y rfl rfl (zad rfl) ?_
  refine zag ?_
  exact zvZ (zcN rfl)
 ·rintro e u w' ⟨h1,rfl,h3⟩
  exact⟨h1,rfl,h3⟩
def zeR (b:Nat):List (ByteArray×Value):=[(⟨#[115,104,101,101,116]⟩,.func (.func 109) #[] #[.pointer (some ⟨b,0,none⟩)]),(⟨#[119,97,108,108]⟩,.func (.func 112) #[] #[.pointer (some ⟨b,0,none⟩)]),(⟨#[111,112,101,110]⟩,.func (.func 115) #[] #[.pointer (some ⟨b,0,none⟩)])]
abbrev zsz (z:Nat×Nat) (p:Nat):Res:=SepR [MapR z.1 (zeR z.2),Box z.2 [.pointer (some ⟨p,0,none⟩)] 157]
set_option maxRecDepth 100000 in
set_option maxHeartbeats 1000000 in
theorem ztV (p:Nat) (w:World)  :
  Calls Tryz.prog 89 #[.pointer (some ⟨p,0,none⟩)] w (zcU (fun z:Nat×Nat=>.map (some z.1)) (fun z=>zsz z p) w):=by
 refine zan (vs:=[_]) Tryz.func89 rfl rfl (Nat.le_of_ble_eq_true rfl) ?_
 refine zac ?_
 refine zaa ?_
 refine zaG rfl rfl (za3 (vs:=[_]) rfl rfl) fun b1=>?_
 refine gk_y rfl rfl (zad rfl) ?_
 refine zag (zae (T':=[(1,_),(2,_)]) ⟨rfl,rfl,trivial⟩ ?_)
 refine zac ?_
 refine zaa ?_
 refine zaG rfl rfl (zmM) fun b3=>?_
 refine gk_y rfl rfl (zbO («as»:=[]) (bs:=[_]) rfl rfl) ?_
 refine zig 0 zrJ rfl rfl rfl rfl (by rfl) ?_
 refine gk_y rfl rfl (zbO («as»:=[]) (bs:=[_]) rfl rfl) ?_
 refine zig 0 zrJ rfl rfl rfl rfl (by show mget [_] _=none; rw [mget,if_neg (show ¬ ((⟨#[119,97,108,108]⟩:ByteArray) == ⟨#[115,104,101,101,116]⟩)=true by decide)]; rfl) ?_
 refine gk_y rfl rfl (zbO («as»:=[]) (bs:=[_]) rfl rfl) ?_
 refine zig 0 zrJ rfl rfl rfl rfl (by show mget [_,_] _=none; rw [mget,if_neg (show ¬ ((⟨#[111,112,101,110]⟩:ByteArray) == ⟨#[115,104,101,101,116]⟩)=true by decide),mget,if_neg (show ¬ ((⟨#[111,112,101,110]⟩:ByteArray) == ⟨#[119,97,108,108]⟩)=true by decide)]; rfl) ?_
 refine gk_y rfl rfl (zaf rfl) ?_
 refine gk_y rfl rfl (zad rfl) ?_
 refine zag (zae (T':=[(2,_)]) ⟨rfl,trivial⟩ ?_)
 refine zao 1 rfl ?_
 refine zao 1 rfl ?_
 refine zbT 2 ?_
 refine za2 (R':=zsz (b3,b1) p) 0 rfl (fun B w hA=>hA) ?_
 refine zaw ?_
 exact zbd (b3,b1) 0 (zaC rfl (zau rfl)) rfl rfl
end Go.Proofs.YtdcfcfhmkfkgmaaGreatDoor
namespace Go.Proofs.YtdcfcfhmkfkgmaaGreatDoor
open Go.K Go.Stn Go.Pln Go.RowKit
theorem en87:En Tryz.prog 87:=za7 Tryz.func87 (by kernel_rfl) (by kernel_rfl)
theorem en88:En Tryz.prog 88:=za7 Tryz.func88 (by kernel_rfl) (by kernel_rfl)
theorem en89:En Tryz.prog 89:=za7 Tryz.func89 (by kernel_rfl) (by kernel_rfl)
theorem zw2:En Tryz.prog 109:=za7 Tryz.func109 (by kernel_rfl) (by kernel_rfl)
theorem zw4:En Tryz.prog 112:=za7 Tryz.func112 (by kernel_rfl) (by kernel_rfl)
theorem zw5:En Tryz.prog 115:=za7 Tryz.func115 (by kernel_rfl) (by kernel_rfl)
theorem zrb (x0a:Option Addr) (x0n x0c:Nat) (w:World):(Instr.build 161 #[(0,.slice x0a x0n x0c)]).run Tryz.prog w=.ok (.agg #[.slice x0a x0n x0c]) w:=by kernel_rfl
theorem zgv {p:Nat} {q:Plan} {t:ByteArray} {P:Program} {n:Nat} {w w':World} {B:Nat→Prop} {H:List Res} {k:Int} {R:Res} (i:Nat) (hi:H[i]?=some R) (hR:∀ B w,R.A B w→(plAt yP p).A B w) (he:zcu q t=.error k) (hw:Hp (cxB P n w B).U (cxB P n w B).w0 H w') :
  zho (fun _:Unit=>.int .i64 (zkJ (zcu q t))) (fun _=>plOr yP p (zcu q t)) (fun _=>True) B w (.returned (.int .i64 k)) w':=by
 rw [he]
 obtain⟨B',h1,h2,_,h3⟩:=zet hw hi
 exact⟨(),B',rfl,trivial,h1,h2,hR _ _ h3⟩
theorem zmi {p:Nat} {q q':Plan} {t:ByteArray} {P:Program} {n:Nat} {w w':World} {B:Nat→Prop} {H:List Res} {i:Nat} (he:zcu q t=.ok q') (hw:Hp (cxB P n w B).U (cxB P n w B).w0 H w') (hi:H[i]?=some (PlE yP p q')) :
  zho (fun _:Unit=>.int .i64 (zkJ (zcu q t))) (fun _=>plOr yP p (zcu q t)) (fun _=>True) B w (.returned (.int .i64 0)) w':=by
 rw [he]
 obtain⟨B',h1,h2,_,h3⟩:=zet hw hi
 exact⟨(),B',rfl,trivial,h1,h2,h3⟩
theorem zmd {b:Nat} {u:ByteArray} (h:(mget (zeR b) u).isSome=true) :
  ((u == ⟨#[115,104,101,101,116]⟩)=true∧mget (zeR b) u=some (.func (.func 109) #[] #[.pointer (some ⟨b,0,none⟩)]))∨(¬ (u == ⟨#[115,104,101,101,116]⟩)=true∧(u == ⟨#[119,97,108,108]⟩)=true∧mget (zeR b) u=some (.func (.func 112) #[] #[.pointer (some ⟨b,0,none⟩)])) ∨
  (¬ (u == ⟨#[115,104,101,101,116]⟩)=true∧¬ (u == ⟨#[119,97,108,108]⟩)=true∧(u == ⟨#[111,112,101,110]⟩)=true∧mget (zeR b) u=some (.func (.func 115) #[] #[.pointer (some ⟨b,0,none⟩)])):=by
 unfold zeR mget mget mget mget at *
 by_cases h1:(u == ⟨#[115,104,101,101,116]⟩)=true
 ·exact .inl ⟨h1,if_pos h1⟩
 ·by_cases h2:(u == ⟨#[119,97,108,108]⟩)=true
  ·exact .inr (.inl ⟨h1,h2,(if_neg h1).trans (if_pos h2)⟩)
  ·by_cases h3:(u == ⟨#[111,112,101,110]⟩)=true
   ·exact .inr (.inr ⟨h1,h2,h3,(if_neg h1).trans ((if_neg h2).trans (if_pos h3))⟩)
   ·rw [if_neg h1,if_neg h2,if_neg h3] at h; cases h
theorem zmc {b:Nat} {q:Plan} {u:ByteArray} {ws:List ByteArray} (h:(mget (zeR b) u).isSome=false):zff q u ws=.error 4:=by
 unfold zeR mget mget mget mget at h
 unfold zff
 by_cases h1:(u == ⟨#[115,104,101,101,116]⟩)=true
 ·rw [if_pos h1] at h; cases h
 ·by_cases h2:(u == ⟨#[119,97,108,108]⟩)=true
  ·rw [if_neg h1,if_pos h2] at h; cases h
  ·by_cases h3:(u == ⟨#[111,112,101,110]⟩)=true
   ·rw [if_neg h1,if_neg h2,if_pos h3] at h; cases h
   ·rw [if_neg h1,if_neg h2,if_neg h3]
set_option maxRecDepth 100000 in
set_option maxHeartbeats 8000000 in
theorem zv6 (p:Nat) (q:Plan) (t:ByteArray) (w:World) (B:Nat→Prop) (hB:∀ k,B k→k < w.heap.size) (hA:(PlP p q).A B w) (hq:OkQ q) (ht:t.size≤40000) (hmx:Rd (fun k=>k < w.heap.size∧¬ B k) w (IntV 2)) (hcp:Rd (fun k=>k < w.heap.size∧¬ B k) w (zaW (some ⟨0,0,none⟩) 1 encS zeZ)) (hop:Rd (fun k=>k < w.heap.size∧¬ B k) w (zaW (some ⟨1,0,none⟩) 1 encS opensW)) :
  Calls Tryz.prog 59 #[.pointer (some ⟨p,0,none⟩),.string t] w (zho (fun _:Unit=>.int .i64 (zkJ (zcu q t))) (fun _=>plOr yP p (zcu q t)) (fun _=>True) B w):=by
 refine zby hB hA (vs:=[_,_]) Tryz.func59 rfl rfl (Nat.le_of_ble_eq_true rfl) ?_
 refine zac ?_
 refine zaa ?_
 refine zaG rfl rfl (zaL tf33 (zs:=[_]) rfl) fun b4=>?_
 refine zag (zae (T':=[(0,_),(1,_),(4,_)]) ⟨rfl,rfl,rfl,trivial⟩ ?_)
 refine zac ?_
 refine zaa ?_
 refine gk_y rfl rfl (zbO («as»:=[]) (bs:=[_]) rfl rfl) ?_
 refine zru (cap:=[_]) rfl rfl rfl ?_
 refine zag (zae (T':=[(0,_),(1,_),(4,_)]) ⟨rfl,rfl,rfl,trivial⟩ ?_)
 refine zac ?_
 refine zaa ?_
 refine gk_y rfl rfl (zaf rfl) ?_
 refine zaG rfl rfl (zbm en88 rfl (fun w hw=>zuJ t 32 w (by omega) (Rd.has hmx hw))) fun b10=>?_
 refine gk_y rfl rfl (zaI rfl (zrb _ _ _)) ?_
 refine zaG rfl rfl (za3 (vs:=[_]) rfl rfl) fun b12=>?_
 refine gk_y rfl rfl (zad rfl) ?_
 refine zag (zae (T':=[(0,_),(4,_),(5,_)]) ⟨rfl,rfl,rfl,trivial⟩ ?_)
 refine zao 1 rfl ?_
 refine za2 (R':=zaW (some ⟨b10,0,none⟩) 1 encS (zcn t 32)) 0 rfl (fun B w hA=>Row.elems ztJ hA) ?_
 refine zao 1 rfl ?_
 refine zeH (Nat.le_refl _) ?_
 refine zac ?_
 refine zaa ?_
 refine gk_y rfl rfl (zaf rfl) ?_
 refine zaG rfl rfl (zbm en89 rfl (fun w hw=>ztV p w)) fun m15=>?_
 refine gk_y rfl rfl (zaf rfl) ?_
 refine zbZ (res:=zdp (zcn t 32)) 1 en90 rfl rfl rfl (fun w B hF=>zli b12 (zcn t 32) w B (fun k hk=>(hF.own k hk).2) hF.A) (fun k hk17=>?_) (fun x17 m17 hx17=>?_)
 ·
  refine zao 2 rfl ?_
  exact zfg (H':=Box b4 [.int .i64 k] 33 :: _) en87 (fun w hw=>zdn rfl hw) (zaC rfl (zcy (i:=0) tf33 rfl rfl rfl)) (fun w hw=>zgv 3 rfl zdy (by rw [zcu,hk17]; rfl) hw)
 refine zbP ?_
 refine gk_y rfl rfl (zmL zrJ rfl rfl (fun _ hw=>hw.has (p:=0) rfl)) ?_
 refine gk_y rfl rfl (zaf rfl) ?_
 refine gk_y rfl rfl (zaB rfl rfl) ?_
 refine gk_y rfl rfl (zaB rfl rfl) ?_
 refine gk_y rfl rfl (zad rfl) ?_
 refine gk_y rfl rfl (zad rfl) ?_
 refine zag (zae (T':=[(4,_),(5,_),(6,_),(7,_)]) ⟨rfl,rfl,rfl,rfl,trivial⟩ ?_)
 have hws17:x17.2.length≤100000:=by have:=(zjw t 32).2; have:=zka hx17; omega
 refine zac ?_
 refine zac ?_
 refine zaa ?_
 refine gk_y rfl rfl (zaf rfl) ?_
 refine gk_y rfl rfl (zbR rfl) ?_
 refine zag (zae (T':=[(4,_),(5,_),(6,_),(22,_)]) ⟨rfl,rfl,rfl,rfl,trivial⟩ ?_)
 refine zap rfl (fun hc22=>?_) (fun hc22=>?_)
 ·
  refine zaa ?_
  refine zcg en91 rfl (fun w hw=>zdk _ w) ?_
  refine zao 3 rfl ?_
  exact zfg (H':=Box b4 [.int .i64 4] 33 :: _) en87 (fun w hw=>zdn rfl hw) (zaC rfl (zcy (i:=0) tf33 rfl rfl rfl)) (fun w hw=>zgv 4 rfl zdy (by rw [zcu,hx17,zak]; exact zmc (by simpa using hc22)) hw)
 ·have h22:(mget (zeR m15.2) x17.1).isSome=true:=by simpa using hc22
  rcases zmd h22 with ⟨hu,hm⟩ | ⟨hu0,hu,hm⟩ | ⟨hu0,hu1,hu,hm⟩
  ·
   refine zae (T':=[(4,_),(5,_),(6,.func (.func 109) #[] #[.pointer (some ⟨m15.2,0,none⟩)]),(22,_)]) ⟨rfl,rfl,(by show some ((mget (zeR m15.2) x17.1).getD _)=_; rw [hm]; rfl),rfl,trivial⟩ ?_
   refine zaq ?_
   refine zac ?_
   refine zaa ?_
   refine gk_y rfl rfl (zaf rfl) ?_
   refine gk_y rfl rfl (zaf rfl) ?_
   refine zao 4 rfl ?_
   refine zao 3 rfl ?_
   refine zbT 2 ?_
   refine zie (res:=zb3 q x17.2) (fs:=[]) (cap:=[_]) 0 zw2 rfl rfl rfl rfl (fun w B hF=>ztS b12 x17.2 p q m15.2 w B (fun k hk=>(hF.own k hk).2) hF.A hq (hF.other 1 rfl) hws17 (hF.rd hcp)) (fun k hk26=>?_) (fun x26 m26 hx26=>?_)
   ·
    refine zao 3 rfl ?_
    exact zfg (H':=Box b4 [.int .i64 k] 33 :: _) en87 (fun w hw=>zdn rfl hw) (zaC rfl (zcy (i:=0) tf33 rfl rfl rfl)) (fun w hw=>zgv 1 rfl zmt (by rw [zcu,hx17,zak,zff,if_pos hu]; exact hk26) hw)
   refine zag (zae (T':=[(4,_)]) ⟨rfl,trivial⟩ ?_)
   refine zac ?_
   refine zaa ?_
   refine zaA 3 tf33 rfl rfl (vs:=[_]) rfl rfl rfl rfl rfl ?_
   refine zag (zae (T':=[(4,_)]) ⟨rfl,trivial⟩ ?_)
   refine zaw ?_
   exact zgW en87 (fun w hw=>zgX rfl hw) (zaC rfl (zcy (i:=3) tf33 rfl rfl rfl)) (fun w hw=>zmi (by rw [zcu,hx17,zak,zff,if_pos hu]; exact hx26) hw (i:=0) rfl)
  ·
   refine zae (T':=[(4,_),(5,_),(6,.func (.func 112) #[] #[.pointer (some ⟨m15.2,0,none⟩)]),(22,_)]) ⟨rfl,rfl,(by show some ((mget (zeR m15.2) x17.1).getD _)=_; rw [hm]; rfl),rfl,trivial⟩ ?_
   refine zaq ?_
   refine zac ?_
   refine zaa ?_
   refine gk_y rfl rfl (zaf rfl) ?_
   refine gk_y rfl rfl (zaf rfl) ?_
   refine zao 4 rfl ?_
   refine zao 3 rfl ?_
   refine zbT 2 ?_
   refine zie (res:=zb1 q x17.2) (fs:=[]) (cap:=[_]) 0 zw4 rfl rfl rfl rfl (fun w B hF=>ztT b12 x17.2 p q m15.2 w B (fun k hk=>(hF.own k hk).2) hF.A hq (hF.other 1 rfl) hws17) (fun k hk26=>?_) (fun x26 m26 hx26=>?_)
   ·
    refine zao 3 rfl ?_
    exact zfg (H':=Box b4 [.int .i64 k] 33 :: _) en87 (fun w hw=>zdn rfl hw) (zaC rfl (zcy (i:=0) tf33 rfl rfl rfl)) (fun w hw=>zgv 1 rfl zmt (by rw [zcu,hx17,zak,zff,if_neg hu0,if_pos hu]; exact hk26) hw)
   refine zag (zae (T':=[(4,_)]) ⟨rfl,trivial⟩ ?_)
   refine zac ?_
   refine zaa ?_
   refine zaA 3 tf33 rfl rfl (vs:=[_]) rfl rfl rfl rfl rfl ?_
   refine zag (zae (T':=[(4,_)]) ⟨rfl,trivial⟩ ?_)
   refine zaw ?_
   exact zgW en87 (fun w hw=>zgX rfl hw) (zaC rfl (zcy (i:=3) tf33 rfl rfl rfl)) (fun w hw=>zmi (by rw [zcu,hx17,zak,zff,if_neg hu0,if_pos hu]; exact hx26) hw (i:=0) rfl)
  ·
   refine zae (T':=[(4,_),(5,_),(6,.func (.func 115) #[] #[.pointer (some ⟨m15.2,0,none⟩)]),(22,_)]) ⟨rfl,rfl,(by show some ((mget (zeR m15.2) x17.1).getD _)=_; rw [hm]; rfl),rfl,trivial⟩ ?_
   refine zaq ?_
   refine zac ?_
   refine zaa ?_
   refine gk_y rfl rfl (zaf rfl) ?_
   refine gk_y rfl rfl (zaf rfl) ?_
   refine zao 4 rfl ?_
   refine zao 3 rfl ?_
   refine zbT 2 ?_
   refine zie (res:=zch q x17.2) (fs:=[]) (cap:=[_]) 0 zw5 rfl rfl rfl rfl (fun w B hF=>ztU b12 x17.2 p q m15.2 w B (fun k hk=>(hF.own k hk).2) hF.A hq (hF.other 1 rfl) hws17 (hF.rd hop)) (fun k hk26=>?_) (fun x26 m26 hx26=>?_)
   ·
    refine zao 3 rfl ?_
    exact zfg (H':=Box b4 [.int .i64 k] 33 :: _) en87 (fun w hw=>zdn rfl hw) (zaC rfl (zcy (i:=0) tf33 rfl rfl rfl)) (fun w hw=>zgv 1 rfl zmt (by rw [zcu,hx17,zak,zff,if_neg hu0,if_neg hu1,if_pos hu]; exact hk26) hw)
   refine zag (zae (T':=[(4,_)]) ⟨rfl,trivial⟩ ?_)
   refine zac ?_
   refine zaa ?_
   refine zaA 3 tf33 rfl rfl (vs:=[_]) rfl rfl rfl rfl rfl ?_
   refine zag (zae (T':=[(4,_)]) ⟨rfl,trivial⟩ ?_)
   refine zaw ?_
   exact zgW en87 (fun w hw=>zgX rfl hw) (zaC rfl (zcy (i:=3) tf33 rfl rfl rfl)) (fun w hw=>zmi (by rw [zcu,hx17,zak,zff,if_neg hu0,if_neg hu1,if_pos hu]; exact hx26) hw (i:=0) rfl)
end Go.Proofs.YtdcfcfhmkfkgmaaGreatDoor
namespace Go.Proofs.YtdcfcfhmkfkgmaaGreatDoor
open Go.K Go.Stn Go.Pln Go.RowKit
theorem en86:En Tryz.prog 86:=za7 Tryz.func86 (by kernel_rfl) (by kernel_rfl)
def numV:Int→List ByteArray→List (List Value)
 | _,[]=>[]
 | n,t :: r=>[.int .i64 n,.string t] :: numV (n+1) r
theorem zhz:∀ (n:Int) (l:List ByteArray),(numV n l).length=l.length
 | _,[]=>rfl
 | n,t :: r=>by rw [numV,List.length_cons,List.length_cons,zhz (n+1) r]
theorem zkc {u:ByteArray}:∀ {l:List ByteArray} {k:Int} {i:Nat},l[i]?=some u→(numV k l)[i]?=some [.int .i64 (k+i),.string u]
 | [],_,_,h=>by simp at h
 | t :: r,k,0,h=>by
  simp at h
  rw [numV,h]
  simp
 | t :: r,k,i+1,h=>by
  rw [List.getElem?_cons_succ] at h
  rw [numV,List.getElem?_cons_succ,zkc h,show k+1+(i:Int)=k+((i+1:Nat):Int) from by omega]
theorem zuk {n:Int} {l:List ByteArray} {u:ByteArray} (h1:1≤n) (h:l[(n - 1).toNat]?=some u):(numV 1 l)[(n - 1).toNat]?=some [.int .i64 n,.string u]:=by
 rw [zkc h,show 1+((n - 1).toNat:Int)=n from by omega]
theorem zkQ:∀ l:List ByteArray,(zfN l).length≤l.length
 | []=>Nat.le_refl _
 | [x]=>by rw [zfN]; split <;> simp
 | x :: y :: r=>by have:=zkQ (y :: r); rw [zfN,List.length_cons,List.length_cons]; omega
theorem zp5 (t:ByteArray):(zcb t).length≤t.size+1:=Nat.le_trans (zkQ _) (zjw t 10).2
theorem ze8 {u:ByteArray}:(u.toList == (⟨#[]⟩:ByteArray).toList)=true↔u.size=0:=by
 rw [Lib.toList_data,Lib.toList_data,beq_iff_eq]
 constructor
 ·intro h
  have:=congrArg List.length h
  rw [Array.length_toList] at this
  exact this
 ·intro h
  exact List.eq_nil_of_length_eq_zero (by rw [Array.length_toList]; exact h)
theorem ztx (s:ByteArray) (w:World) (hs:s.size < 4294967281) (hm:Has w (IntV 2)):Calls Tryz.prog 86 #[.string s,.string ⟨#[10]⟩] w (Pure (.tuple #[.string (cutA s),.string (cutB s),.bool (Lib.cut s.data.toList [10]).2.2]) w):=zww s _ w hs hm
set_option maxRecDepth 100000 in
set_option maxHeartbeats 1000000 in
theorem zrG (t:ByteArray) (b:Nat) (ht:t.size≤40000) :
  zu2 Tryz.prog 85 [.pointer (some ⟨b,0,none⟩)] (numV 1 (zcb t)) (Box b [.string t] 9) (IntV 2):=by
 intro X J Rl D y w B C x0 hB hC hA hO h0 hS hy
 have hnum:=zp5 t
 refine zby (B:=fun k=>B k∨C k) (fun k h=>h.elim (hB k) (fun h=>(hC k h).1)) (zsg hA hO (fun k h=>(hC k h).2)) (vs:=[_,_]) Tryz.func85 rfl rfl (Nat.le_of_ble_eq_true rfl) ?_
 have ins0:=zpY Tryz.prog Tryz.f85.ntmps w (fun k=>B k∨C k)
 refine zbP ?_
 refine zac ?_
 refine zaa ?_
 refine gk_y rfl rfl (zad rfl) ?_
 refine zag (zae (T':=[(0,_),(1,_),(3,_)]) ⟨rfl,rfl,rfl,trivial⟩ ?_)
 refine zas ?_
 refine zbf (X:=Int×ByteArray×X) (fun⟨n,u,x2⟩=>[(0,.func (.yield y) #[] #[]),(1,.pointer (some ⟨b,0,none⟩)),(3,.int .i64 n)]) (fun⟨n,u,x2⟩=>[J x2,Box b [.string u] 9]) (fun⟨n,u,x2⟩=>(1≤n∧zcb u=(zcb t).drop (n - 1).toNat∧(n - 1).toNat≤(zcb t).length∧u.size≤t.size∧Rl (n - 1).toNat x2)) (fun⟨n,u,x2⟩=>u.size) (1,t,x0) ⟨rfl,rfl,rfl,trivial⟩ rfl ?_ ?_
 ·exact⟨by omega,rfl,by simp,Nat.le_refl _,h0⟩
 ·rintro ⟨n,u,x2⟩ hI
  obtain⟨g0,g1,g2,g3,g4⟩:=hI
  refine zac ?_
  refine zac ?_
  refine zaa ?_
  refine gk_y rfl rfl (zah 1 tf9 rfl rfl rfl) ?_
  refine gk_y rfl rfl (ziV rfl rfl) ?_
  refine zag (zae (T':=[(0,_),(1,_),(3,_),(8,_)]) ⟨rfl,rfl,rfl,rfl,trivial⟩ ?_)
  refine zap rfl (fun hc8=>?_) (fun hc8=>?_)
  ·have hu:u.size≠0:=fun h=>by rw [ze8.2 h] at hc8; exact Bool.noConfusion hc8
   refine zaq ?_
   refine zac ?_
   refine zas ?_
   refine zac ?_
   refine zaa ?_
   refine gk_y rfl rfl (zah 1 tf9 rfl rfl rfl) ?_
   refine gk_y rfl rfl (zaJ en86 rfl (fun w hw=>ztx u w (by omega) (Rd.has hS hw))) ?_
   refine gk_y rfl rfl (zaf rfl) ?_
   refine gk_y rfl rfl (zaB rfl rfl) ?_
   refine gk_y rfl rfl (zaB rfl rfl) ?_
   refine gk_y rfl rfl (zaB rfl rfl) ?_
   refine gk_y rfl rfl (zad rfl) ?_
   refine gk_y rfl rfl (zad rfl) ?_
   refine gk_y rfl rfl (zad rfl) ?_
   refine zag (zae (T':=[(0,_),(1,_),(3,_),(4,_),(5,_)]) ⟨rfl,rfl,rfl,rfl,rfl,trivial⟩ ?_)
   refine zac ?_
   refine zac ?_
   refine zaa ?_
   refine gk_y rfl rfl (zaf rfl) ?_
   refine gk_y rfl rfl (zaf rfl) ?_
   refine gk_y rfl rfl (zaf rfl) ?_
   refine znl 0 ins0 rfl rfl rfl rfl (hy _ _ _ (zuk g0 (zgY g1 hu).2) g4) fun b20 x20 hp20=>?_
   refine gk_y rfl rfl (zbR rfl) ?_
   refine zag (zae (T':=[(0,_),(1,_),(3,_),(5,_),(21,_)]) ⟨rfl,rfl,rfl,rfl,rfl,trivial⟩ ?_)
   refine zap rfl (fun hc21=>?_) (fun hc21=>?_)
   ·
    refine zaw ?_
    refine zd9 x20 0 (zcN rfl) rfl rfl (.inr (by have:=hp20; rwa [show b20=false from by simpa using hc21,if_neg Bool.false_ne_true] at this))
   ·
    refine zaq ?_
    refine zaa ?_
    refine gk_y rfl rfl (zaf rfl) ?_
    refine zaA 1 tf9 rfl rfl (vs:=[_]) rfl rfl rfl rfl rfl ?_
    refine zag (zae (T':=[(0,_),(1,_),(3,_)]) ⟨rfl,rfl,rfl,trivial⟩ ?_)
    refine zaa ?_
    refine gk_y rfl rfl (zaf rfl) ?_
    refine gk_y rfl rfl (zaY rfl rfl (by omega) (by omega)) ?_
    refine gk_y rfl rfl (zad rfl) ?_
    refine zag (zae (T':=[(0,_),(1,_),(3,_)]) ⟨rfl,rfl,rfl,trivial⟩ ?_)
    exact za1 (n+1,cutB u,x20) ⟨rfl,rfl,rfl,trivial⟩ rfl ⟨by omega,by rw [show(n+1 - 1).toNat=(n - 1).toNat+1 from by omega]; exact(zgY g1 hu).1,by have:=(List.getElem?_eq_some_iff.1 (zgY g1 hu).2).1; omega,by have:=zkN hu; omega,by have:=hp20; rw [show b20=true from by simpa using hc21,if_pos rfl] at this; rwa [show(n+1 - 1).toNat=(n - 1).toNat+1 from by omega]⟩ (by have:=zkN hu; simp only []; omega)
  ·have hu:u.size=0:=ze8.1 (by simpa using hc8)
   refine za8 rfl ?_
   refine zd9 x2 0 (zcN rfl) rfl rfl (.inl (by rw [zhz,←zp3 g1 hu g2]; exact g4))
set_option maxRecDepth 100000 in
set_option maxHeartbeats 1000000 in
theorem zud (t:ByteArray) (w:World)  :
  Calls Tryz.prog 58 #[.string t] w (zcU (fun b:Nat=>.func (.func 85) #[] #[.pointer (some ⟨b,0,none⟩)]) (fun b=>Box b [.string t] 9) w):=by
 refine zan (vs:=[_]) Tryz.func58 rfl rfl (Nat.le_of_ble_eq_true rfl) ?_
 refine zac ?_
 refine zaa ?_
 refine zaG rfl rfl (za3 (vs:=[_]) rfl rfl) fun b1=>?_
 refine gk_y rfl rfl (zad rfl) ?_
 refine zag (zae (T':=[(1,_),(2,_)]) ⟨rfl,rfl,trivial⟩ ?_)
 refine zac ?_
 refine zaa ?_
 refine gk_y rfl rfl (zbO («as»:=[]) (bs:=[_]) rfl rfl) ?_
 refine gk_y rfl rfl (zad rfl) ?_
 refine zag (zae (T':=[(2,_)]) ⟨rfl,trivial⟩ ?_)
 refine zaw ?_
 refine zbd b1 0 (zaC rfl (zau rfl)) ?_ rfl
 rfl
end Go.Proofs.YtdcfcfhmkfkgmaaGreatDoor
namespace Go.Proofs.YtdcfcfhmkfkgmaaGreatDoor
open Go.K Go.Stn Go.Pln Go.RowKit
theorem en58:En Tryz.prog 58:=za7 Tryz.func58 (by kernel_rfl) (by kernel_rfl)
theorem en59:En Tryz.prog 59:=za7 Tryz.func59 (by kernel_rfl) (by kernel_rfl)
theorem en85:En Tryz.prog 85:=za7 Tryz.func85 (by kernel_rfl) (by kernel_rfl)
theorem zu9  (w:World):(Instr.build 31 #[]).run Tryz.prog w=.ok (.agg #[.slice none 0 0,.slice none 0 0]) w:=by kernel_rfl
theorem zny:∀ (k:Int) (l:List ByteArray),∀ a∈numV k l,a.length=2
 | _,[],_,h=>by cases h
 | k,t :: r,a,h=>by
  rw [numV] at h
  rcases List.mem_cons.1 h with rfl | h'
  ·rfl
  ·exact zny (k+1) r a h'
theorem zj3 {u:ByteArray} (h:(!(u.toList == (⟨#[]⟩:ByteArray).toList))=true):0 < (u.size:Int):=by
 have:¬ u.size=0:=fun e=>by rw [ze8.2 e] at h; exact Bool.noConfusion h
 omega
theorem zt3 {u:ByteArray} (h:(u.toList == (⟨#[]⟩:ByteArray).toList||decide (zee u 0=35))=true):idle u=true:=by
 rw [Bool.or_eq_true] at h
 rcases h with h' | h'
 ·exact zv1 (ze8.1 h')
 ·exact zv2 h'
theorem zrz {u:ByteArray} (h:(u.toList == (⟨#[]⟩:ByteArray).toList||decide (zee u 0=35))=false):idle u=false:=by
 obtain⟨h1,h2⟩:=(Bool.or_eq_false_iff).1 h
 exact zt2 (fun e=>by rw [ze8.2 e] at h1; cases h1) h2
theorem zrN {l:List ByteArray} {k:Int} {i:Nat} {a:List Value} (h:(numV k l)[i]?=some a):∃ u,l[i]?=some u∧a=[.int .i64 (k+i),.string u]:=by
 have hi:i < l.length:=by
  have:=(List.getElem?_eq_some_iff.1 h).1
  rwa [zhz] at this
 refine⟨l[i],List.getElem?_eq_getElem hi,?_⟩
 have:=zkc (k:=k) (List.getElem?_eq_getElem hi)
 rw [this] at h
 cases h; rfl
set_option maxRecDepth 100000 in
set_option maxHeartbeats 4000000 in
theorem zus (t:ByteArray) (w:World) (hmx:Has w (IntV 2)) (hcp:Has w (zaW (some ⟨0,0,none⟩) 1 encS zeZ)) (hop:Has w (zaW (some ⟨1,0,none⟩) 1 encS opensW)) :
  Calls Tryz.prog 24 #[.string t] w (zcU (fun z:(Option Addr×Nat×List ShC)×(Option Addr×Nat×List WlC)=>.tuple #[.agg #[.slice z.1.1 z.1.2.2.length z.1.2.1,.slice z.2.1 z.2.2.2.length z.2.2.1],.int .i64 (zgA t).2.1,.int .i64 (zgA t).2.2]) (fun z=>PlR yP z (zgA t).1) w):=by
 refine zan (vs:=[_]) Tryz.func24 rfl rfl (Nat.le_of_ble_eq_true rfl) ?_
 refine zac ?_
 refine zaa ?_
 refine zaG rfl rfl (zaL tf31 (zs:=[_,_]) rfl) fun b2=>?_
 refine zaG rfl rfl (zaL tf3 (zs:=[_]) rfl) fun b3=>?_
 refine zaG rfl rfl (zaL tf33 (zs:=[_]) rfl) fun b4=>?_
 refine zag (zae (T':=[(0,_),(2,_),(3,_),(4,_)]) ⟨rfl,rfl,rfl,rfl,trivial⟩ ?_)
 refine zac ?_
 refine zac ?_
 refine zaa ?_
 refine gk_y rfl rfl (zaf rfl) ?_
 refine gk_y rfl rfl (zeO (Tryz.underlying9) rfl) ?_
 refine gk_y rfl rfl (zc6 rfl rfl) ?_
 refine zag (zae (T':=[(0,_),(2,_),(3,_),(4,_),(10,_)]) ⟨rfl,rfl,rfl,rfl,rfl,trivial⟩ ?_)
 refine zap rfl (fun hc10=>?_) (fun hc10=>?_)
 ·
  refine zac ?_
  refine zaa ?_
  refine gk_y rfl rfl (zaI (parts:=[]) rfl zu9) ?_
  refine zaA 2 tf31 rfl rfl (vs:=[_,_]) rfl rfl rfl rfl rfl ?_
  refine zaA 1 tf3 rfl rfl (vs:=[_]) rfl rfl rfl rfl rfl ?_
  refine zaA 0 tf33 rfl rfl (vs:=[_]) rfl rfl rfl rfl rfl ?_
  refine zag (zae (T':=[(0,_),(2,_),(3,_),(4,_)]) ⟨rfl,rfl,rfl,rfl,trivial⟩ ?_)
  refine zpO yP ?_
  refine zaw ?_
  refine zbd ((none,0,[]),(none,0,[])) 0 (zdh rfl (zbU (i:=3) (vs:=[_,_]) tf31 rfl rfl rfl rfl) (zcy (i:=2) tf3 rfl rfl rfl) (zcy (i:=1) tf33 rfl rfl rfl)) (by rw [zjq (by have:=of_decide_eq_true hc10; omega)] <;> rfl) (by rw [zjq (by have:=of_decide_eq_true hc10; omega)] <;> rfl)
 ·have hlong:¬ t.size > 40000:=by have:=of_decide_eq_false hc10; omega
  refine zaq ?_
  refine zac ?_
  refine zac ?_
  refine zaa ?_
  refine gk_y rfl rfl (zaf rfl) ?_
  refine zaG rfl rfl (zbm en58 rfl (fun w hw=>zud _ w)) fun b13=>?_
  refine zag (zae (T':=[(2,_),(3,_),(4,_),(13,_)]) ⟨rfl,rfl,rfl,rfl,trivial⟩ ?_)
  refine zao 3 rfl ?_
  refine za2 (R':=stR yP b2 (.ok ⟨[],[]⟩)) 0 rfl (fun B w hA=>zxt hA) ?_
  refine zao 2 rfl ?_
  refine zao 3 rfl ?_
  refine zao 2 rfl ?_
  refine zao 3 rfl ?_
  refine zas ?_
  refine zae (T':=[(2,_),(3,_),(4,_),(13,_)]) ⟨rfl,rfl,rfl,rfl,trivial⟩ ?_
  refine zj0 (X:=Except (Int×Int) Plan) (fun x=>[stR yP b2 x,Box b3 [.int .i64 (lnE x)] 3,Box b4 [.int .i64 (erE x)] 33]) (fun n x=>∃ q,x=.ok q∧OkQ q∧zdo ⟨[],[]⟩ 1 (zcb t)=zdo q (1+(n:Int)) ((zcb t).drop n)) (fun x=>x=zdo ⟨[],[]⟩ 1 (zcb t)∧∃ y,x=.error y) [] (.ok ⟨[],[]⟩) rfl en85 rfl rfl ⟨_,rfl,zup,by simp⟩ (zrG t b13 (by omega)) (Has.rd hmx) (zny _ _) rfl ?_ ?_ ?_ ?_
  ·rintro R1 R2 rl U' w' n x args hget hR hrd hins hbeg
   obtain⟨u,hs,rfl⟩:=zrN hget
   obtain⟨q,rfl,hq,hle⟩:=hR
   refine zae (T':=[(2,_),(3,_),(4,_),(14,_),(15,_)]) ⟨rfl,rfl,rfl,rfl,rfl,trivial⟩ ?_
   refine zac ?_
   refine zaa ?_
   refine gk_y rfl rfl (zad rfl) ?_
   refine zag (zae (T':=[(2,_),(3,_),(4,_),(5,_),(15,_)]) ⟨rfl,rfl,rfl,rfl,rfl,trivial⟩ ?_)
   refine zaa ?_
   refine gk_y rfl rfl (zad rfl) ?_
   refine zag (zae (T':=[(2,_),(3,_),(4,_),(5,_),(6,_)]) ⟨rfl,rfl,rfl,rfl,rfl,trivial⟩ ?_)
   refine za2 (R':=PlP b2 q) 1 rfl (fun B w hA=>hA) ?_
   refine za2 (R':=Box b3 [.int .i64 0] 3) 2 rfl (fun B w hA=>hA) ?_
   refine za2 (R':=Box b4 [.int .i64 0] 33) 3 rfl (fun B w hA=>hA) ?_
   refine hbeg _ _ _ ?_
   refine zas ?_
   refine zac ?_
   refine zac ?_
   refine zbb 7 (fun _=>mixed) (by kernel_rfl) ?_
   refine ph_y (zaf rfl) ?_
   refine ph_y (zge rfl rfl) ?_
   refine ph_y (zaf rfl) ?_
   refine zaz rfl rfl (fun hgd=>by(try rw [hgd]); (try have hgd2:=zj3 hgd); exact(zaf rfl)) ?_
   refine zaz rfl rfl (fun hgd=>by(try rw [hgd]); (try have hgd2:=zj3 hgd); exact(zdM (Tryz.underlying9) rfl rfl (by omega) (by omega))) ?_
   refine zaz rfl rfl (fun hgd=>by(try rw [hgd]); (try have hgd2:=zj3 hgd); exact(zbL rfl rfl)) ?_
   refine ph_y (zaR rfl rfl rfl) ?_
   refine zag (zae (T':=[(2,_),(3,_),(4,_),(5,_),(6,_),(22,_)]) ⟨rfl,rfl,rfl,rfl,rfl,rfl,trivial⟩ ?_)
   refine zap rfl (fun hc22=>?_) (fun hc22=>?_)
   ·have hid:=zt3 hc22
    refine za8 rfl ?_
    exact zb9 (.ok q) trivial rfl ⟨_,rfl,hq,by rw [hle,zl1 hs,zoq hid,(show 1+(n:Int)+1=1+((n+1:Nat):Int) from by omega)]⟩
   ·have hid:=zrz hc22
    refine zaq ?_
    refine zac ?_
    refine zaa ?_
    refine gk_y rfl rfl (zaf rfl) ?_
    refine zjY 1 en59 rfl rfl rfl (fun w B hF=>zv6 b2 q u w B (fun k hk=>(hF.own k hk).2) hF.A hq (by have:=zom hs; omega) (hF.rd (hrd _ (Has.rd hmx))) (hF.rd (hrd _ (Has.rd hcp))) (hF.rd (hrd _ (Has.rd hop)))) fun z24 hq24=>?_
    refine gk_y rfl rfl (zad rfl) ?_
    refine zag (zae (T':=[(2,_),(3,_),(4,_),(5,_),(7,_)]) ⟨rfl,rfl,rfl,rfl,rfl,trivial⟩ ?_)
    refine zac ?_
    refine zaa ?_
    refine gk_y rfl rfl (zaf rfl) ?_
    refine gk_y rfl rfl (zcr rfl rfl) ?_
    refine zag (zae (T':=[(2,_),(3,_),(4,_),(5,_),(7,_),(26,_)]) ⟨rfl,rfl,rfl,rfl,rfl,rfl,trivial⟩ ?_)
    refine zap rfl (fun hc26=>?_) (fun hc26=>?_)
    ·have hk:=zrg (q:=q) (t:=u) (by simpa using hc26)
     refine za2 (R':=plAt yP b2) 1 rfl (fun B w hA=>by rw [hk] at hA; exact hA) ?_
     refine zao 1 rfl ?_
     refine zpP fun pa pn pm pb pe pd=>?_
     refine zac ?_
     refine zaa ?_
     refine gk_y rfl rfl (zaI (parts:=[]) rfl zu9) ?_
     refine gk_y rfl rfl (zaf rfl) ?_
     refine gk_y rfl rfl (zaf rfl) ?_
     refine zaA 0 tf31 rfl rfl (vs:=[_,_]) rfl rfl rfl rfl rfl ?_
     refine zaA 2 tf3 rfl rfl (vs:=[_]) rfl rfl rfl rfl rfl ?_
     refine zaA 3 tf33 rfl rfl (vs:=[_]) rfl rfl rfl rfl rfl ?_
     refine zag (zae (T':=[(2,_),(3,_),(4,_)]) ⟨rfl,rfl,rfl,trivial⟩ ?_)
     refine za2 (R':=stR yP b2 (.error (1+(n:Int),zkJ (zcu q u)))) 0 rfl (fun B w hA=>hA) ?_
     refine zao 3 rfl ?_
     refine zao 3 rfl ?_
     refine zao 2 rfl ?_
     refine zao 3 rfl ?_
     refine zaw ?_
     exact zb9 (.error (1+(n:Int),zkJ (zcu q u))) trivial rfl ⟨by rw [hle,zl1 hs,zqr hid hk],_,rfl⟩
    ·obtain⟨q',hq'⟩:=ztu (q:=q) (t:=u) (by simpa using hc26)
     refine za2 (R':=PlP b2 q') 1 rfl (fun B w hA=>by rw [hq'] at hA; exact hA) ?_
     refine zaq ?_
     exact zb9 (.ok q') trivial rfl ⟨_,rfl,zrS hq hq',by rw [hle,zl1 hs,zhB hid hq',(show 1+(n:Int)+1=1+((n+1:Nat):Int) from by omega)]⟩
  ·intro Dm x hR
   obtain⟨q,rfl,hq,hle⟩:=hR
   have hfin:zdo ⟨[],[]⟩ 1 (zcb t)=.ok q:=by rw [hle,zhz,List.drop_of_length_le (Nat.le_refl _)]; rfl
   refine za2 (R':=PlP b2 q) 1 rfl (fun B w hA=>hA) ?_
   refine za2 (R':=Box b3 [.int .i64 0] 3) 2 rfl (fun B w hA=>hA) ?_
   refine za2 (R':=Box b4 [.int .i64 0] 33) 3 rfl (fun B w hA=>hA) ?_
   refine zao 1 rfl ?_
   refine zgq fun sa sc S wa wc V hS hV=>?_
   refine zac ?_
   refine zaa ?_
   refine gk_y rfl rfl (zat 0 tf31 rfl rfl (vs:=[_,_]) rfl rfl) ?_
   refine zaA 0 tf31 rfl rfl (vs:=[_,_]) rfl rfl rfl rfl rfl ?_
   refine zaA 6 tf3 rfl rfl (vs:=[_]) rfl rfl rfl rfl rfl ?_
   refine zaA 7 tf33 rfl rfl (vs:=[_]) rfl rfl rfl rfl rfl ?_
   refine zag (zae (T':=[(2,_),(3,_),(4,_)]) ⟨rfl,rfl,rfl,trivial⟩ ?_)
   refine zao 4 rfl ?_
   refine zao 4 rfl ?_
   refine zao 4 rfl ?_
   refine zao 4 rfl ?_
   refine zbT 4 ?_
   refine za2 (R':=PlR yP ((sa,sc,S),(wa,wc,V)) q) 0 rfl (fun B w hA=>⟨hS,hV,hA⟩) ?_
   refine zaw ?_
   refine zil 2 rfl ?_
   refine zbd ((sa,sc,S),(wa,wc,V)) 0 (zdh rfl (zbU (i:=1) (vs:=[_,_]) tf31 rfl rfl rfl rfl) (zcy (i:=2) tf3 rfl rfl rfl) (zcy (i:=3) tf33 rfl rfl rfl)) (by rw [zkf hlong hfin] <;> rfl) (by rw [zkf hlong hfin] <;> rfl)
  ·rintro Dm x hD
   obtain⟨hfin,y,rfl⟩:=hD
   have hfin:=hfin.symm
   refine za2 (R':=Box b2 [.slice none 0 0,.slice none 0 0] 31) 1 rfl (fun B w hA=>hA) ?_
   refine za2 (R':=Box b3 [.int .i64 y.1] 3) 2 rfl (fun B w hA=>hA) ?_
   refine za2 (R':=Box b4 [.int .i64 y.2] 33) 3 rfl (fun B w hA=>hA) ?_
   refine zpO yP ?_
   refine zil 1 rfl ?_
   refine zbd ((none,0,[]),(none,0,[])) 0 (zdh rfl (zbU (i:=1) (vs:=[_,_]) tf31 rfl rfl rfl rfl) (zcy (i:=2) tf3 rfl rfl rfl) (zcy (i:=3) tf33 rfl rfl rfl)) (by rw [zlq hlong hfin] <;> rfl) (by rw [zlq hlong hfin] <;> rfl)
  ·exact fun _ _ _ _ h=>absurd h (by simp)
end Go.Proofs.YtdcfcfhmkfkgmaaGreatDoor
namespace Go.Proofs.YtdcfcfhmkfkgmaaGreatDoor
open Go.K Go.Stn Go.Pln Go.RowKit
theorem en43:En Tryz.prog 43:=za7 Tryz.func43 (by kernel_rfl) (by kernel_rfl)
theorem en44:En Tryz.prog 44:=za7 Tryz.func44 (by kernel_rfl) (by kernel_rfl)
theorem map_take {α β:Type} [Inhabited α] (f:α→β) {l:List α} {m:List α} {i:Int} {x:α} (h0:0≤i) (h:i < (l.length:Int)) (hm:m.map f=(l.take i.toNat).map f) (hx:f x=f (l.getD i.toNat default)):(m++[x]).map f=(l.take (i+1).toNat).map f:=by
 rw [List.map_append,hm,show(i+1).toNat=i.toNat+1 from by omega,List.take_add_one,List.getElem?_eq_getElem (by omega),List.map_append]
 congr 1
 show [f x]=[f l[i.toNat]]
 rw [hx,List.getD_eq_getElem?_getD,List.getElem?_eq_getElem (by omega)]; rfl
set_option maxRecDepth 100000 in
set_option maxHeartbeats 16000000 in
theorem zue (a:Option Addr) (cap:Nat) (S:List ShC) (b:Option Addr) (bcap:Nat) (V:List WlC) (w:World) (hl:Has w (zaW a 20 zbH S)) (hs:zaP S.length) (hlw:Has w (zaW b 4 zbS V)) (hsw:zaP V.length) (hsh:∀ z∈S,Has w (Ints z.a z.s.heights)) (hss:∀ z∈S,zaP z.s.heights.length) (hwo:∀ z∈V,Has w (zaW z.a 5 zba z.s.opens)) (hsv:∀ z∈V,zaP z.s.opens.length) (hsl:S.length≤1000000) (hvl:V.length≤1000000) :
  Calls Tryz.prog 14 #[.agg #[.slice a S.length cap,.slice b V.length bcap]] w (zcU (fun z:(Option Addr×Nat×List ShC)×(Option Addr×Nat×List WlC)=>.agg #[.slice z.1.1 z.1.2.2.length z.1.2.1,.slice z.2.1 z.2.2.2.length z.2.2.1]) (fun z=>PlR yP z ⟨S.map (·.s),V.map (·.s)⟩) w):=by
 refine zan (vs:=[_]) Tryz.func14 rfl rfl (Nat.le_of_ble_eq_true rfl) ?_
 refine zac ?_
 refine zaa ?_
 refine zaG rfl rfl (za3 (vs:=[_,_]) rfl rfl) fun b1=>?_
 refine zaG rfl rfl (zaL tf31 (zs:=[_,_]) rfl) fun b2=>?_
 refine zag (zae (T':=[(1,_),(2,_)]) ⟨rfl,rfl,trivial⟩ ?_)
 refine zac ?_
 refine zaa ?_
 refine zaG rfl rfl (zaL tf31 (zs:=[_,_]) rfl) fun b3=>?_
 refine zag (zae (T':=[(1,_),(2,_),(3,_)]) ⟨rfl,rfl,rfl,trivial⟩ ?_)
 refine zac ?_
 refine zac ?_
 refine zaa ?_
 refine gk_y rfl rfl (zad rfl) ?_
 refine zag (zae (T':=[(1,_),(2,_),(3,_),(4,_)]) ⟨rfl,rfl,rfl,rfl,trivial⟩ ?_)
 refine zas ?_
 refine zbB 41 zbH 20 ?_
 refine zjj (rowH 3) ?_
 refine zbf (X:=Int×Option Addr×Nat×List ShC) (fun⟨i,ra,rc,S2⟩=>[(1,.pointer (some ⟨b1,0,none⟩)),(2,.pointer (some ⟨b2,0,none⟩)),(3,.pointer (some ⟨b3,0,none⟩)),(4,.int .i64 i)]) (fun⟨i,ra,rc,S2⟩=>[Go.K.Rows (rowH 3) S2,Row ra 20 rc 41 zbH S2,Box b3 [.slice ra S2.length rc,.slice none 0 0] 31,Box b2 [.slice none 0 0,.slice none 0 0] 31,Box b1 [.slice a S.length cap,.slice b V.length bcap] 25]) (fun⟨i,ra,rc,S2⟩=>(0≤i∧i≤S.length∧S2.map (·.s)=(S.take i.toNat).map (·.s))) (fun⟨i,ra,rc,S2⟩=>(S.length - i).toNat) (0,none,0,[]) ⟨rfl,rfl,rfl,rfl,trivial⟩ rfl ?_ ?_
 ·exact⟨by omega,by omega,rfl⟩
 ·rintro ⟨i,ra,rc,S2⟩ hI
  obtain⟨g0,g1,g2⟩:=hI
  have hml:S2.length≤S.length:=by have:=congrArg List.length g2; rw [List.length_map,List.length_map,List.length_take] at this; omega
  refine zac ?_
  refine zac ?_
  refine zaa ?_
  refine gk_y rfl rfl (zaf rfl) ?_
  refine gk_y rfl rfl (zab zd6 rfl) ?_
  refine gk_y rfl rfl (zah 4 tf22 rfl rfl rfl) ?_
  refine gk_y rfl rfl (zaV (Tryz.underlying22) rfl) ?_
  refine gk_y rfl rfl (zbw rfl rfl) ?_
  refine zag (zae (T':=[(1,_),(2,_),(3,_),(4,_),(10,_)]) ⟨rfl,rfl,rfl,rfl,rfl,trivial⟩ ?_)
  refine zap rfl (fun hc10=>?_) (fun hc10=>?_)
  ·have hc10:=of_decide_eq_true hc10
   refine zaq ?_
   refine zac ?_
   refine zas ?_
   refine zf3 (ch [(7,(Option Addr×Nat)),(8,Nat)]) 9 [0,1,0,4,0,28,60,124,252,511,1023,2047] (fun _=>mixed) (by kernel_rfl) (zjK _ ⟨inferInstance,inferInstance,trivial⟩) ?_
   refine zbD (fun ρ=>zab zeo rfl) (fun ρ ρ' h=>by rfl) ?_
   refine zbD (fun ρ=>zah 2 tf28 rfl rfl rfl) (fun ρ ρ' h=>by rfl) ?_
   refine zbD (fun ρ=>zab zd6 rfl) (fun ρ ρ' h=>by rfl) ?_
   refine zbD (fun ρ=>zah 4 tf22 rfl rfl rfl) (fun ρ ρ' h=>by rfl) ?_
   refine zbD (fun ρ=>zaf rfl) (fun ρ ρ' h=>by rfl) ?_
   refine zbD (fun ρ=>zaE se22 rfl rfl (fun _ hw=>(Rd.has (Has.rd hl) hw)) (by omega) (by omega)) (fun ρ ρ' h=>by rfl) ?_
   refine zbD (fun ρ=>zbv (vs:=[_,_,_,_,_,_,_,_,_,_,_,_,_,_,_,_,_,_,_,_]) tf37 rfl (fun _ hw=>(Rd.has (Has.rd hl) hw)) (by omega) (by omega) rfl) (fun ρ ρ' h=>by rfl) ?_
   refine zgB (fun ρ=>zbm en43 rfl (fun w hw=>zrH ((S.getD (i).toNat default).s) _ _ w (Rd.has (Has.rd (hsh _ (za0 (by omega)))) hw) (hss _ (za0 (by omega))))) (fun ρ ρ' h=>⟨by rfl,by rfl⟩) ?_
   refine zgB (fun ρ=>zaD rfl (zsC (⟨(S.getD (i).toNat default).s,(ρ 7).1,(ρ 7).2⟩:ShC)) zbI rfl) (fun ρ ρ' h=>⟨by(first | rfl | (simp only [h 7 rfl]; done) | (simp only [h 7 rfl]; rfl)),by(first | rfl | (simp only [h 7 rfl]; done) | (simp only [h 7 rfl]; rfl))⟩) ?_
   refine fun ρ=>zf4 (X:=(Option Addr×Nat)×Nat) (ρ 7,ρ 8) (fun⟨p20,b21⟩=>[(1,.pointer (some ⟨b1,0,none⟩)),(2,.pointer (some ⟨b2,0,none⟩)),(3,.pointer (some ⟨b3,0,none⟩)),(4,.int .i64 i),(14,.slice ra S2.length rc),(21,.slice (some ⟨b21,0,none⟩) 1 1)]) (fun⟨p20,b21⟩=>[Row (some ⟨b21,0,none⟩) 20 1 41 zbH [(⟨(S.getD (i).toNat default).s,p20.1,p20.2⟩:ShC)],Row p20.1 1 p20.2 3 Go.Stn.encI (S.getD (i).toNat default).s.heights,Go.K.Rows (rowH 3) S2,Row ra 20 rc 41 zbH S2,Box b3 [.slice ra S2.length rc,.slice none 0 0] 31,Box b2 [.slice none 0 0,.slice none 0 0] 31,Box b1 [.slice a S.length cap,.slice b V.length bcap] 25]) ⟨rfl,rfl,rfl,rfl,rfl,rfl,trivial⟩ rfl ?_
   rintro ⟨p20,b21⟩
   refine zb4 (m:=[(⟨(S.getD (i).toNat default).s,p20.1,p20.2⟩:ShC)]) 3 af28 zbI rfl rfl rfl rfl (fun _ hw=>(zam zbI (hw.has (p:=0) rfl))) (by first | omega | (simp only [List.length_cons,List.length_nil]; omega)) (by first | (unfold maxLen; omega) | (simp only [List.length_cons,List.length_nil,maxLen]; omega)) fun a22 c22=>?_
   refine gk_y rfl rfl (zab zeo rfl) ?_
   refine zaA 4 tf28 rfl rfl (vs:=[_]) rfl rfl rfl rfl rfl ?_
   refine zag (zae (T':=[(1,_),(2,_),(3,_),(4,_)]) ⟨rfl,rfl,rfl,rfl,trivial⟩ ?_)
   refine zao 1 rfl ?_
   refine zao 2 rfl ?_
   refine zbT 2 ?_
   refine za2 (R':=Go.K.Rows (rowH 3) (S2++[(⟨(S.getD i.toNat default).s,p20.1,p20.2⟩:ShC)])) 0 rfl (fun B w hA=>zfr (f:=rowH 3) hA) ?_
   refine zaa ?_
   refine gk_y rfl rfl (zaf rfl) ?_
   refine gk_y rfl rfl (zaY rfl rfl (by omega) (by omega)) ?_
   refine gk_y rfl rfl (zad rfl) ?_
   refine zag (zae (T':=[(1,_),(2,_),(3,_),(4,_)]) ⟨rfl,rfl,rfl,rfl,trivial⟩ ?_)
   refine zaK 1 rfl ?_
   exact za1 (i+1,_,_,_) ⟨rfl,rfl,rfl,rfl,trivial⟩ rfl ⟨by omega,by omega,map_take _ g0 hc10 g2 rfl⟩ (by simp only []; omega)
  ·have hc10:=of_decide_eq_false hc10
   have hS2:S2.map (·.s)=S.map (·.s):=by rw [g2,List.take_of_length_le (by omega)]
   clear g0 g1 g2 hml
   refine za8 rfl ?_
   refine zac ?_
   refine zac ?_
   refine zaa ?_
   refine gk_y rfl rfl (zad rfl) ?_
   refine zag (zae (T':=[(1,_),(2,_),(3,_),(5,_)]) ⟨rfl,rfl,rfl,rfl,trivial⟩ ?_)
   refine zas ?_
   refine zbB 94 zbS 4 ?_
   refine zjj (rowO 98) ?_
   refine zbf (X:=Int×Option Addr×Nat×List WlC) (fun⟨i,rb,rd,V2⟩=>[(1,.pointer (some ⟨b1,0,none⟩)),(2,.pointer (some ⟨b2,0,none⟩)),(3,.pointer (some ⟨b3,0,none⟩)),(5,.int .i64 i)]) (fun⟨i,rb,rd,V2⟩=>[Go.K.Rows (rowO 98) V2,Row rb 4 rd 94 zbS V2,Go.K.Rows (rowH 3) S2,Row ra 20 rc 41 zbH S2,Box b3 [.slice ra S2.length rc,.slice rb V2.length rd] 31,Box b2 [.slice none 0 0,.slice none 0 0] 31,Box b1 [.slice a S.length cap,.slice b V.length bcap] 25]) (fun⟨i,rb,rd,V2⟩=>(0≤i∧i≤V.length∧V2.map (·.s)=(V.take i.toNat).map (·.s))) (fun⟨i,rb,rd,V2⟩=>(V.length - i).toNat) (0,none,0,[]) ⟨rfl,rfl,rfl,rfl,trivial⟩ rfl ?_ ?_
   ·exact⟨by omega,by omega,rfl⟩
   ·rintro ⟨i,rb,rd,V2⟩ hI
    obtain⟨g0,g1,g2⟩:=hI
    have hml:V2.length≤V.length:=by have:=congrArg List.length g2; rw [List.length_map,List.length_map,List.length_take] at this; omega
    refine zac ?_
    refine zac ?_
    refine zaa ?_
    refine gk_y rfl rfl (zaf rfl) ?_
    refine gk_y rfl rfl (zab zdT rfl) ?_
    refine gk_y rfl rfl (zah 6 tf23 rfl rfl rfl) ?_
    refine gk_y rfl rfl (zaV (Tryz.underlying23) rfl) ?_
    refine gk_y rfl rfl (zbw rfl rfl) ?_
    refine zag (zae (T':=[(1,_),(2,_),(3,_),(5,_),(28,_)]) ⟨rfl,rfl,rfl,rfl,rfl,trivial⟩ ?_)
    refine zap rfl (fun hc28=>?_) (fun hc28=>?_)
    ·have hc28:=of_decide_eq_true hc28
     refine zaq ?_
     refine zac ?_
     refine zas ?_
     refine zf3 (ch [(7,(Option Addr×Nat)),(8,Nat)]) 9 [0,1,0,4,0,28,60,124,252,511,1023,2047] (fun _=>mixed) (by kernel_rfl) (zjK _ ⟨inferInstance,inferInstance,trivial⟩) ?_
     refine zbD (fun ρ=>zab zd7 rfl) (fun ρ ρ' h=>by rfl) ?_
     refine zbD (fun ρ=>zah 4 tf29 rfl rfl rfl) (fun ρ ρ' h=>by rfl) ?_
     refine zbD (fun ρ=>zab zdT rfl) (fun ρ ρ' h=>by rfl) ?_
     refine zbD (fun ρ=>zah 6 tf23 rfl rfl rfl) (fun ρ ρ' h=>by rfl) ?_
     refine zbD (fun ρ=>zaf rfl) (fun ρ ρ' h=>by rfl) ?_
     refine zbD (fun ρ=>zaE se23 rfl rfl (fun _ hw=>(Rd.has (Has.rd hlw) hw)) (by omega) (by omega)) (fun ρ ρ' h=>by rfl) ?_
     refine zbD (fun ρ=>zbv (vs:=[_,_,_,_]) tf65 rfl (fun _ hw=>(Rd.has (Has.rd hlw) hw)) (by omega) (by omega) rfl) (fun ρ ρ' h=>by rfl) ?_
     refine zgB (fun ρ=>zbm en44 rfl (fun w hw=>zuf ((V.getD (i).toNat default).s) _ _ w (Rd.has (Has.rd (hwo _ (za0 (by omega)))) hw) (hsv _ (za0 (by omega))))) (fun ρ ρ' h=>⟨by rfl,by rfl⟩) ?_
     refine zgB (fun ρ=>zaD rfl (zsD (⟨(V.getD (i).toNat default).s,(ρ 7).1,(ρ 7).2⟩:WlC)) zbo rfl) (fun ρ ρ' h=>⟨by(first | rfl | (simp only [h 7 rfl]; done) | (simp only [h 7 rfl]; rfl)),by(first | rfl | (simp only [h 7 rfl]; done) | (simp only [h 7 rfl]; rfl))⟩) ?_
     refine fun ρ=>zf4 (X:=(Option Addr×Nat)×Nat) (ρ 7,ρ 8) (fun⟨p38,b39⟩=>[(1,.pointer (some ⟨b1,0,none⟩)),(2,.pointer (some ⟨b2,0,none⟩)),(3,.pointer (some ⟨b3,0,none⟩)),(5,.int .i64 i),(32,.slice rb V2.length rd),(39,.slice (some ⟨b39,0,none⟩) 1 1)]) (fun⟨p38,b39⟩=>[Row (some ⟨b39,0,none⟩) 4 1 94 zbS [(⟨(V.getD (i).toNat default).s,p38.1,p38.2⟩:WlC)],Row p38.1 5 p38.2 98 zba (V.getD (i).toNat default).s.opens,Go.K.Rows (rowO 98) V2,Row rb 4 rd 94 zbS V2,Go.K.Rows (rowH 3) S2,Row ra 20 rc 41 zbH S2,Box b3 [.slice ra S2.length rc,.slice rb V2.length rd] 31,Box b2 [.slice none 0 0,.slice none 0 0] 31,Box b1 [.slice a S.length cap,.slice b V.length bcap] 25]) ⟨rfl,rfl,rfl,rfl,rfl,rfl,trivial⟩ rfl ?_
     rintro ⟨p38,b39⟩
     refine zb4 (m:=[(⟨(V.getD (i).toNat default).s,p38.1,p38.2⟩:WlC)]) 3 af29 zbo rfl rfl rfl rfl (fun _ hw=>(zam zbo (hw.has (p:=0) rfl))) (by first | omega | (simp only [List.length_cons,List.length_nil]; omega)) (by first | (unfold maxLen; omega) | (simp only [List.length_cons,List.length_nil,maxLen]; omega)) fun a40 c40=>?_
     refine gk_y rfl rfl (zab zd7 rfl) ?_
     refine zaA 6 tf29 rfl rfl (vs:=[_]) rfl rfl rfl rfl rfl ?_
     refine zag (zae (T':=[(1,_),(2,_),(3,_),(5,_)]) ⟨rfl,rfl,rfl,rfl,trivial⟩ ?_)
     refine zao 1 rfl ?_
     refine zao 2 rfl ?_
     refine zbT 2 ?_
     refine za2 (R':=Go.K.Rows (rowO 98) (V2++[(⟨(V.getD i.toNat default).s,p38.1,p38.2⟩:WlC)])) 0 rfl (fun B w hA=>zfr (f:=rowO 98) hA) ?_
     refine zaa ?_
     refine gk_y rfl rfl (zaf rfl) ?_
     refine gk_y rfl rfl (zaY rfl rfl (by omega) (by omega)) ?_
     refine gk_y rfl rfl (zad rfl) ?_
     refine zag (zae (T':=[(1,_),(2,_),(3,_),(5,_)]) ⟨rfl,rfl,rfl,rfl,trivial⟩ ?_)
     refine zaK 1 rfl ?_
     exact za1 (i+1,_,_,_) ⟨rfl,rfl,rfl,rfl,trivial⟩ rfl ⟨by omega,by omega,map_take _ g0 hc28 g2 rfl⟩ (by simp only []; omega)
    ·have hc28:=of_decide_eq_false hc28
     have hV2:V2.map (·.s)=V.map (·.s):=by rw [g2,List.take_of_length_le (by omega)]
     refine za8 rfl ?_
     refine zac ?_
     refine zaa ?_
     refine gk_y rfl rfl (zat 4 tf31 rfl rfl (vs:=[_,_]) rfl rfl) ?_
     refine zaA 5 tf31 rfl rfl (vs:=[_,_]) rfl rfl rfl rfl rfl ?_
     refine zag (zae (T':=[(2,_)]) ⟨rfl,trivial⟩ ?_)
     refine zao 1 rfl ?_
     refine zao 2 rfl ?_
     refine zao 3 rfl ?_
     refine zbT 4 ?_
     refine za2 (R':=PlR yP ((ra,rc,S2),(rb,rd,V2)) ⟨S.map (·.s),V.map (·.s)⟩) 0 rfl (fun B w hA=>⟨hS2,hV2,hA⟩) ?_
     refine zaw ?_
     refine zbd ((ra,rc,S2),(rb,rd,V2)) 0 (zaC rfl (zbU (i:=2) (vs:=[_,_]) tf31 rfl rfl rfl rfl)) ?_ rfl
     rfl
end Go.Proofs.YtdcfcfhmkfkgmaaGreatDoor
namespace Go.K
open Go Go.RowKit
section
variable {α:Type} [Inhabited α] {k:Nat} {enc:α→List Value}
open Go.Proofs in
theorem zoy {P:Program} {ρ:Go.Shelf.Ren} (L:SlLaysF0.n6 P ρ) (aE:∀ w,(isAgg (ρ.t 24)).run P w=.ok true w) (zE:∀ w,(Go.sizeOf (ρ.t 24)).run P w=.ok k w) (he:Enc k enc) (hk:0 < k) (h1:∀ x,∀ v∈enc x,v.oneCell' = true)
  (cf:α→α→Int) (hO:Go.Sort.SWO (ltOf cf)) (g:Nat) (cb:List Value) (eg:En P g)
  {a:Option Addr} {cap:Nat} {e:TypeId} {l:List α} {w:World} {B:Nat→Prop} (hc:∀ x y w',Mod B w w'→Calls P g (#[.agg (enc x).toArray,.agg (enc y).toArray]++cb.toArray) w' (Pure (.int .i64 (cf x y)) w'))
  (hB:∀ i,B i→i < w.heap.size) (hA:(Row a k cap e enc l).A B w) (hs:l.length < 4611686018427387904) :
  Calls P (ρ.f 6) #[.slice a l.length cap,.func (.func g) #[] cb.toArray] w (zho (fun _:List α=>.tuple #[]) (fun m=>Row a k cap e enc m) (fun m=>m.Perm l∧m.Pairwise fun x y=>ltOf cf y x=false) B w):=by
 rcases hA with ⟨rfl,rfl,rfl⟩ | ⟨b,off,cs,ha,hBb,hb,g1,g2,g3⟩
 ·refine(AnyF.slices_SortFunc_none L none 0 (.func (.func g) #[] cb.toArray) w).mono ?_
  rintro _ _ ⟨rfl,rfl⟩
  exact⟨[],B,rfl,⟨List.Perm.refl _,List.Pairwise.nil⟩,Mod.rfl,fun _ hk=>.inl hk,.inl ⟨rfl,rfl,rfl⟩⟩
 ·have hbl:b < w.heap.size:=hB b ((hBb b).2 rfl)
  have hcmp:CmpLays P g cb.toArray enc k cf b off l.toArray.size w:=fun m os dk hdk x y=>by
   have hm:=(zjs (n:=m) (os:=os) he hk (m:=dk.toList) (l:=l) (by simpa using hdk) hB ha hBb hb g1 g2).1
   rw [Array.toArray_toList] at hm
   refine(hc x y (Go.Proofs.sortWorldK enc k w b off m dk os) hm).mono ?_
   rintro _ w' ⟨rfl,hx⟩
   exact⟨rfl,hx.grown⟩
  have h:=AnyQ.slices_SortFunc L k aE zE enc he.len h1 cf hO g cb.toArray b off cap l.toArray w eg hcmp (zpW he hk hb g3) hbl (by simpa using hs)
  subst ha
  refine h.mono ?_
  rintro _ _ ⟨rfl,d',n,os,⟨hsz,_,hperm⟩,hso,rfl⟩
  have hsz':d'.size=l.length:=by simpa using hsz
  have e1:d'.extract 0 l.toArray.size=d':=by rw [←hsz]; exact Array.extract_size
  rw [e1,Array.extract_size] at hperm
  obtain⟨q1,q2⟩:=zjs (n:=n) (os:=os) he hk (m:=d'.toList) (l:=l) (by simpa using hsz') hB rfl hBb hb g1 g2
  rw [Array.toArray_toList] at q1 q2
  refine⟨d'.toList,B,rfl,⟨by simpa using hperm,?_⟩,q1,fun _ hk=>.inl hk,q2⟩
  rw [List.pairwise_iff_getElem]
  intro i j hi hj hij
  have hi':i < d'.size:=by simpa using hi
  have hj':j < d'.size:=by simpa using hj
  have:=hso i j (Nat.zero_le _) hij (by simpa using (by omega:j < l.length))
  rw [getElem!_pos d' j hj',getElem!_pos d' i hi'] at this
  simpa using this
end
end Go.K
namespace Go.Pln
open Go Go.K Go.RowKit Go.Stn
def zcH (l:List Opn) (x:Int):Bool:=l.all fun o=>!(decide (o.at_≤x)&&decide (x < o.at_+o.width))
theorem zdU {l:List Opn} {x:Int}:zcH l x=true↔∀ o∈l,¬ (o.at_≤x∧x < o.at_+o.width):=by
 unfold zcH
 rw [List.all_eq_true]
 have key:∀ o:Opn,(!(decide (o.at_≤x)&&decide (x < o.at_+o.width)))=true↔¬ (o.at_≤x∧x < o.at_+o.width):=fun o=>by
  rw [Bool.not_eq_true',Bool.and_eq_false_iff,decide_eq_false_iff_not,decide_eq_false_iff_not]
  omega
 exact⟨fun h o ho=>(key o).1 (h o ho),fun h o ho=>(key o).2 (h o ho)⟩
theorem znj {l:List Opn} {x:Int} {o:Opn} (ho:o∈l) (h:o.at_≤x∧x < o.at_+o.width):zcH l x=false:=by
 cases e:zcH l x with
 | false=>rfl
 | true=>exact absurd h (zdU.1 e o ho)
theorem zof {l m:List Opn} (h:l.Perm m):zcH l=zcH m:=by
 funext x
 rw [Bool.eq_iff_iff,zdU,zdU]
 exact⟨fun g o ho=>g o (h.mem_iff.2 ho),fun g o ho=>g o (h.mem_iff.1 ho)⟩
def Runs (f:Int→Bool) (hi:Int):Int→List Crs→Prop
 | lo,[]=>∀ x,lo≤x→x < hi→f x=false
 | lo,c :: r=>lo≤c.frm∧c.frm < c.to∧c.to≤hi∧(∀ x,lo≤x→x < c.frm→f x=false)∧(∀ x,c.frm≤x→x < c.to→f x=true)∧(c.to=hi∨f c.to=false)∧Runs f hi c.to r
theorem ziC {f:Int→Bool} {hi:Int}:∀ {lo:Int} {m n:List Crs},Runs f hi lo m→Runs f hi lo n→m=n
 | _,[],[],_,_=>rfl
 | _,[],c :: r,h,⟨a,b,d,_,e,_⟩=>by
  have:=h c.frm a (by omega)
  rw [e c.frm (Int.le_refl _) b] at this; cases this
 | _,c :: r,[],⟨a,b,d,_,e,_⟩,h=>by
  have:=h c.frm a (by omega)
  rw [e c.frm (Int.le_refl _) b] at this; cases this
 | _,c :: r,d :: s,⟨a1,a2,a3,a4,a5,a6,a7⟩,⟨b1,b2,b3,b4,b5,b6,b7⟩=>by
  have h1:c.frm=d.frm:=by
   rcases Int.lt_trichotomy c.frm d.frm with h | h | h
   ·have:=a5 c.frm (Int.le_refl _) a2
    rw [b4 c.frm a1 h] at this; cases this
   ·exact h
   ·have:=b5 d.frm (Int.le_refl _) b2
    rw [a4 d.frm b1 h] at this; cases this
  have h2:c.to=d.to:=by
   rcases Int.lt_trichotomy c.to d.to with h | h | h
   ·rcases a6 with e | e
    ·omega
    ·have:=b5 c.to (by omega) h
     rw [e] at this; cases this
   ·exact h
   ·rcases b6 with e | e
    ·omega
    ·have:=a5 d.to (by omega) h
     rw [e] at this; cases this
  obtain⟨cf,ct⟩:=c
  obtain⟨df,dt⟩:=d
  simp only at h1 h2
  subst h1 h2
  rw [ziC a7 b7]
theorem zeK {f:Int→Bool} {hi:Int}:∀ {lo:Int} {m:List Crs},Runs f hi lo m→∀ c∈m,lo≤c.frm∧c.frm < c.to∧c.to≤hi∧∀ x,c.frm≤x→x < c.to→f x=true
 | _,[],_,_,h=>by cases h
 | _,c :: r,⟨a1,a2,a3,_,a5,_,a7⟩,d,h=>by
  rcases List.mem_cons.1 h with rfl | h'
  ·exact⟨a1,a2,a3,a5⟩
  ·obtain⟨b1,b2,b3,b4⟩:=zeK a7 d h'
   exact⟨by omega,b2,b3,b4⟩
theorem zgG {f:Int→Bool} {a b:Int} (hab:a≤b) (hn:∀ x,a≤x→x < b→f x=false):∀ {lo:Int} {m:List Crs},Runs f a lo m→Runs f b lo m
 | _,[],h=>fun x h1 h2=>by
  rcases Int.lt_or_le x a with g | g
  ·exact h x h1 g
  ·exact hn x g h2
 | _,c :: r,⟨a1,a2,a3,a4,a5,a6,a7⟩=>⟨a1,a2,by omega,a4,a5,by
   rcases a6 with e | e
   ·rcases Int.lt_or_le a b with g | g
    ·exact .inr (hn _ (by omega) (by omega))
    ·exact .inl (by omega)
   ·exact .inr e,zgG hab hn a7⟩
theorem zhC {f:Int→Bool} {a b:Int} (hab:a < b) (hf:∀ x,a≤x→x < b→f x=true):∀ {lo:Int} {m:List Crs},lo≤a→(∀ c∈m,c.to < a)→Runs f a lo m→Runs f b lo (m++[⟨a,b⟩])
 | _,[],hlo,_,h=>⟨hlo,hab,Int.le_refl _,h,hf,.inl rfl,fun x h1 h2=>by simp only at h1; omega⟩
 | _,c :: r,_,hl,⟨a1,a2,a3,a4,a5,a6,a7⟩=>⟨a1,a2,by omega,a4,a5,by
   rcases a6 with e | e
   ·have:=hl c (List.mem_cons_self ..); omega
   ·exact .inr e,zhC hab hf a3 (fun d hd=>hl d (List.mem_cons_of_mem _ hd)) a7⟩
theorem zlw {f:Int→Bool} {a p:Int} (hf:f a=true):∀ {lo:Int} {m:List Crs},Runs f a lo (m++[⟨p,a⟩])→Runs f (a+1) lo (m++[⟨p,a+1⟩])
 | _,[],⟨a1,a2,a3,a4,a5,a6,a7⟩=>⟨a1,by simp only at *; omega,Int.le_refl _,a4,fun x h1 h2=>by
   simp only at *
   rcases Int.lt_or_le x a with g | g
   ·exact a5 x h1 g
   ·rw [show x=a from by omega]; exact hf,.inl rfl,fun x h1 h2=>by simp only at h1; omega⟩
 | _,c :: r,⟨a1,a2,a3,a4,a5,a6,a7⟩=>⟨a1,a2,by omega,a4,a5,by
   rcases a6 with e | e
   ·have:=(zeK a7 ⟨p,a⟩ (List.mem_append.2 (.inr (List.mem_cons_self ..))))
    simp only at this; omega
   ·exact .inr e,zlw hf a7⟩
theorem znO {f:Int→Bool} {hi:Int} (h:0 < hi) (hf:∀ x,0≤x→x < hi→f x=true):Runs f hi 0 [⟨0,hi⟩]:=
 ⟨Int.le_refl _,h,Int.le_refl _,fun x h1 h2=>by simp only at h2; omega,hf,.inl rfl,fun x h1 h2=>by simp only at h1; omega⟩
def bayS (f:Int→Bool) (m:List Crs) (x:Int):List Crs:=
 if f x=true then(if 0 < m.length∧(m.getD (m.length - 1) default).to=x then m.set (m.length - 1) ⟨(m.getD (m.length - 1) default).frm,x+1⟩ else m++[⟨x,x+1⟩]) else m
def bayN (f:Int→Bool):Nat→List Crs
 | 0=>[]
 | n+1=>bayS f (bayN f n) n
theorem zt8 {α:Type} [Inhabited α] {m:List α} (h:0 < m.length):m=m.take (m.length - 1)++[m.getD (m.length - 1) default]:=by
 rw [List.getD_eq_getElem?_getD,List.getElem?_eq_getElem (by omega),Option.getD_some]
 conv=>lhs; rw [←List.take_append_drop (m.length - 1) m]
 rw [List.drop_eq_getElem_cons (by omega),List.drop_of_length_le (by omega)]
theorem zrE {α:Type} [Inhabited α] {m:List α} {z:α} (h:0 < m.length):m.set (m.length - 1) z=m.take (m.length - 1)++[z]:=by
 rw [List.set_eq_take_append_cons_drop,if_pos (by omega),List.drop_of_length_le (by omega)]
theorem zoW {f:Int→Bool} {m:List Crs} {x:Int} (h0:0≤x) (h:Runs f x 0 m):Runs f (x+1) 0 (bayS f m x):=by
 unfold bayS
 by_cases hf:f x=true
 ·rw [if_pos hf]
  by_cases hl:0 < m.length∧(m.getD (m.length - 1) default).to=x
  ·rw [if_pos hl,zrE hl.1]
   have h2:=h
   rw [zt8 hl.1] at h2
   have e:m.getD (m.length - 1) default=⟨(m.getD (m.length - 1) default).frm,x⟩:=by
    rw [←hl.2]
   rw [e] at h2
   exact zlw hf h2
  ·rw [if_neg hl]
   refine zhC (by omega) (fun y h1 h2=>by rw [show y=x from by omega]; exact hf) h0 (fun c hc=>?_) h
   obtain⟨i,hi,rfl⟩:=List.getElem_of_mem hc
   have h1:=(zeK h _ hc).2.2.1
   rcases Int.lt_or_eq_of_le h1 with g | g
   ·exact g
   ·exfalso
    have hlast:i=m.length - 1:=by
     rcases Nat.lt_or_ge i (m.length - 1) with hi' | hi'
     ·exfalso
      have key:∀ {lo:Int} {m:List Crs} {i:Nat} (hi:i < m.length),Runs f x lo m→i+1 < m.length→m[i].to < x:=by
       intro lo m
       induction m generalizing lo with
       | nil=>intro i hi; simp at hi
       | cons c r ih=>
        intro i hi hr hi2
        cases i with
        | zero=>
         obtain⟨_,_,_,_,_,_,a7⟩:=hr
         cases r with
         | nil=>simp at hi2
         | cons d s=>
          obtain⟨b1,b2,b3,_⟩:=a7
          simp only [List.getElem_cons_zero]; omega
        | succ k=>
         simp only [List.getElem_cons_succ]
         exact ih (by simpa using hi) hr.2.2.2.2.2.2 (by simpa using hi2)
      have:=key hi h (by omega)
      omega
     ·omega
    subst hlast
    apply hl
    refine⟨by omega,?_⟩
    rw [List.getD_eq_getElem?_getD,List.getElem?_eq_getElem hi]; exact g
 ·rw [if_neg hf]
  exact zgG (by omega) (fun y h1 h2=>by rw [show y=x from by omega]; simpa using hf) h
theorem zkF (f:Int→Bool):∀ n:Nat,Runs f n 0 (bayN f n)
 | 0=>fun x h1 h2=>by omega
 | n+1=>by rw [bayN]; exact zoW (by omega) (zkF f n)
def bayL (f:Int→Bool) (L:Int):List Crs:=bayN f L.toNat
theorem zkE (f:Int→Bool) {L:Int} (h:0≤L):Runs f L 0 (bayL f L):=by
 have:=zkF f L.toNat
 rwa [show((L.toNat:Nat):Int)=L from by omega] at this
theorem zjF {f:Int→Bool} {L:Int} {m:List Crs} (h:0≤L) (hm:Runs f L 0 m):m=bayL f L:=ziC hm (zkE f h)
structure SwI (l:List Opn) (L:Int) (n:Nat) (a:Int) (m:List Crs):Prop where
 a0:0≤a
 aL:a≤L
 runs:Runs (zcH l) a 0 m
 past:∀ o∈l.take n,o.at_+o.width≤a
 edge:a=0∨zcH l (a - 1)=false
def InW (l:List Opn) (L:Int):Prop:=∀ o∈l,0≤o.at_∧1≤o.width∧o.at_+o.width≤L
theorem zsl (l:List Opn) {L:Int} (h:0≤L):SwI l L 0 0 []:=⟨Int.le_refl _,h,fun x h1 h2=>by omega,fun o ho=>by simp at ho,.inl rfl⟩
def swM (a to:Int) (m:List Crs):List Crs:=if a < to then m++[⟨a,to⟩] else m
theorem znU {l:List Opn} {L:Int} {n:Nat} {a:Int} {m:List Crs} (h:SwI l L n a m):∀ c∈m,c.to < a:=fun c hc=>by
 obtain⟨h1,h2,h3,h4⟩:=zeK h.runs c hc
 rcases Int.lt_or_eq_of_le h3 with g | g
 ·exact g
 ·rcases h.edge with e | e
  ·omega
  ·have:=h4 (a - 1) (by omega) (by omega)
   rw [e] at this; cases this
theorem zuK {l:List Opn} {L:Int} {n:Nat} {a:Int} {m:List Crs} (hw:InW l L) (hs:l.Pairwise fun x y=>x.at_≤y.at_) (h:SwI l L n a m) (hn:n < l.length) :
  SwI l L (n+1) (max a ((l.getD n default).at_+(l.getD n default).width)) (swM a (l.getD n default).at_ m):=by
 have hg:l.getD n default=l[n]:=by rw [List.getD_eq_getElem?_getD,List.getElem?_eq_getElem hn]; rfl
 rw [hg]
 have hm:l[n]∈l:=List.getElem_mem hn
 obtain⟨w1,w2,w3⟩:=hw _ hm
 have ha:=h.a0; have haL:=h.aL
 have hcov:∀ x,l[n].at_≤x→x < l[n].at_+l[n].width→zcH l x=false:=fun x h1 h2=>znj hm ⟨h1,h2⟩
 have hfree:∀ x,a≤x→x < l[n].at_→zcH l x=true:=fun x h1 h2=>by
  rw [zdU]
  intro o ho hx
  obtain⟨i,hi,rfl⟩:=List.getElem_of_mem ho
  rcases Nat.lt_or_ge i n with g | g
  ·have:=h.past l[i] (List.mem_take_iff_getElem.2 ⟨i,by omega,rfl⟩)
   omega
  ·rcases Nat.lt_or_eq_of_le g with g' | g'
   ·have:=(List.pairwise_iff_getElem.1 hs) n i hn hi g'
    omega
   ·subst g'; omega
 have hpast:∀ o∈l.take (n+1),o.at_+o.width≤max a (l[n].at_+l[n].width):=fun o ho=>by
  obtain⟨i,hi,rfl⟩:=List.mem_take_iff_getElem.1 ho
  rcases Nat.lt_or_ge i n with g | g
  ·have:=h.past l[i] (List.mem_take_iff_getElem.2 ⟨i,by omega,rfl⟩)
   omega
  ·have hin:i=n:=by omega
   subst hin; omega
 have hedge:max a (l[n].at_+l[n].width)=0∨zcH l (max a (l[n].at_+l[n].width) - 1)=false:=by
  rcases Int.lt_or_le a (l[n].at_+l[n].width) with g | g
  ·right
   rw [show max a (l[n].at_+l[n].width)=l[n].at_+l[n].width from by omega]
   exact hcov _ (by omega) (by omega)
  ·rw [show max a (l[n].at_+l[n].width)=a from by omega]
   exact h.edge
 refine⟨by omega,by omega,?_,hpast,hedge⟩
 unfold swM
 by_cases g:a < l[n].at_
 ·rw [if_pos g,show max a (l[n].at_+l[n].width)=l[n].at_+l[n].width from by omega]
  exact zgG (by omega) hcov (zhC g hfree ha (znU h) h.runs)
 ·rw [if_neg g]
  exact zgG (by omega) (fun x h1 h2=>hcov x (by omega) (by omega)) h.runs
theorem zwl {l:List Opn} {L:Int} {n:Nat} {a:Int} {m:List Crs} (h:SwI l L n a m) (hn:l.length≤n):swM a L m=bayL (zcH l) L:=by
 have ha:=h.a0; have haL:=h.aL
 refine zjF (by omega) ?_
 unfold swM
 by_cases g:a < L
 ·rw [if_pos g]
  refine zhC g (fun x h1 h2=>?_) ha (znU h) h.runs
  rw [zdU]
  intro o ho hx
  have:=h.past o (by rw [List.take_of_length_le hn]; exact ho)
  omega
 ·rw [if_neg g]
  have:a=L:=by omega
  rw [←this]; exact h.runs
theorem zkl {f:Int→Bool} {hi:Int}:∀ {lo:Int} {m:List Crs},lo≤hi→Runs f hi lo m→(m.length:Int)≤hi - lo
 | _,[],h,_=>by simp; omega
 | _,c :: r,h,⟨a1,a2,a3,a4,a5,a6,a7⟩=>by
  have:=zkl a3 a7
  rw [List.length_cons]; omega
theorem SwI.many {l:List Opn} {L:Int} {n:Nat} {a:Int} {m:List Crs} (h:SwI l L n a m):(m.length:Int)≤L:=by
 have:=zkl h.a0 h.runs
 have:=h.aL
 omega
def lenL (m:List Crs):Int:=(m.map fun c=>c.to - c.frm).sum
theorem znP {f:Int→Bool} {hi:Int}:∀ {lo:Int} {m:List Crs},lo≤hi→Runs f hi lo m→0≤lenL m∧lenL m≤hi - lo
 | _,[],h,_=>by simp [lenL]; omega
 | _,c :: r,h,⟨a1,a2,a3,a4,a5,a6,a7⟩=>by
  have:=znP a3 a7
  unfold lenL at *
  rw [List.map_cons,List.sum_cons]
  omega
end Go.Pln
namespace Go.Pln
open Go Go.K Go.RowKit Go.Stn
def SwR (ti tl te:TypeId) (p q:Nat) (a:Int) (m:List Crs):Res where
 A B w:=∃ (ra:Option Addr) (rc:Nat),(SepR [Box p [.int .i64 a] ti,Box q [.slice ra m.length rc] tl,Row ra 2 rc te zbq m]).A B w
 loc B w w' h hA:=let ⟨ra,rc,h1⟩:=hA; ⟨ra,rc,(SepR [Box p [.int .i64 a] ti,Box q [.slice ra m.length rc] tl,Row ra 2 rc te zbq m]).loc B w w' h h1⟩
section
variable {c:Cx} {ds:List Deferred} {T:List (Nat×Value)} {H:List Res} {K:Act→World→Prop} {ti tl te:TypeId} {p q:Nat} {a:Int} {m:List Crs}
theorem zii (h:∀ (ra:Option Addr) (rc:Nat),GK c ds K T (Box p [.int .i64 a] ti :: Box q [.slice ra m.length rc] tl :: Row ra 2 rc te zbq m :: H)):GK c ds K T (SwR ti tl te p q a m :: H):=by
 intro b w ha hw
 obtain⟨hb,B,hB,⟨ra,rc,h2⟩,hr⟩:=hw
 exact h ra rc b w ha (Hp.split (L:=[_,_,_]) ⟨hb,B,hB,h2,hr⟩)
theorem zfF {ra:Option Addr} {rc:Nat} (h:GK c ds K T (SwR ti tl te p q a m :: H)):GK c ds K T (Box p [.int .i64 a] ti :: Box q [.slice ra m.length rc] tl :: Row ra 2 rc te zbq m :: H):=by
 intro b w ha hw
 obtain⟨hb,B,hB,h2,hr⟩:=Hp.pack (L:=[_,_,_]) (H:=H) hw
 exact h b w ha ⟨hb,B,hB,⟨ra,rc,h2⟩,hr⟩
end
theorem zwm {a t:Int} {m:List Crs} (h:decide (a < t)=true):m++[⟨a,t⟩]=swM a t m:=by unfold swM; rw [if_pos (of_decide_eq_true h)]
theorem zxB {a t:Int} {m:List Crs} (h:decide (a < t)=false):m=swM a t m:=by unfold swM; rw [if_neg (of_decide_eq_false h)]
end Go.Pln
namespace Go.Pln
open Go Go.K Go.RowKit Go.Stn
def zgu (c:Crs) (o:Opn):Bool:=decide (o.frm < c.to)&&decide (c.frm < o.frm+o.high)
def zj4 (h:Int) (o:Opn):Bool:=decide (o.frm+o.high=h)
def zcW (p:Opn→Bool) (v:Wll):List Crs:=bayL (zcH (v.opens.filter p)) v.length
def zbg (v:Wll) (c:Crs):List Crs:=zcW (zgu c) v
def zbK (v:Wll) (s:Sht):List Crs:=zcW (zj4 s.height) v
def copF (t to:Int):Nat→Int→Int→Int→List Cpe
 | 0,_,_,_=>[]
 | f+1,x,h,o=>if x < to then⟨x,min t (to - x),h⟩ :: copF t to f (x+t) o h else []
def copB (t to x h o:Int):List Cpe:=copF t to (to - x).toNat x h o
theorem zkL {t to:Int} (ht:1≤t):∀ (f g:Nat) (x h o:Int),(to - x).toNat≤f→(to - x).toNat≤g→copF t to f x h o=copF t to g x h o
 | 0,0,_,_,_,_,_=>rfl
 | 0,g+1,x,h,o,hf,_=>by rw [copF,copF,if_neg (by omega)]
 | f+1,0,x,h,o,_,hg=>by rw [copF,copF,if_neg (by omega)]
 | f+1,g+1,x,h,o,hf,hg=>by
  rw [copF,copF]
  by_cases hx:x < to
  ·rw [if_pos hx,if_pos hx,zkL ht f g (x+t) o h (by omega) (by omega)]
  ·rw [if_neg hx,if_neg hx]
theorem zkK {t to x h o:Int} (ht:1≤t) (hx:x < to):copB t to x h o=⟨x,min t (to - x),h⟩ :: copB t to (x+t) o h:=by
 unfold copB
 obtain⟨f,hf⟩:∃ f,(to - x).toNat=f+1:=⟨(to - x).toNat - 1,by omega⟩
 rw [hf,copF,if_pos hx,zkL ht f ((to - (x+t)).toNat) (x+t) o h (by omega) (Nat.le_refl _)]
theorem zm0 {t to x h o:Int} (hx:¬ x < to):copB t to x h o=[]:=by
 unfold copB
 rw [show(to - x).toNat=0 from by omega]; rfl
theorem zm1 (t to:Int):∀ (f:Nat) (x h o:Int),(copF t to f x h o).length≤f
 | 0,_,_,_=>Nat.le_refl _
 | f+1,x,h,o=>by
  rw [copF]
  split
  ·rw [List.length_cons]; have:=zm1 t to f (x+t) o h; omega
  ·simp
theorem zrh (t to x h o:Int):(copB t to x h o).length≤(to - x).toNat:=zm1 _ _ _ _ _ _
def zdD (s:Sht):Int:=if s.cope=3 then s.short else s.tall
def zcP (s:Sht) (bs:List Crs):List Cpe:=bs.flatMap fun b=>copB s.thick b.to b.frm s.tall (zdD s)
def zbi (v:Wll) (s:Sht):List Cpe:=if s.cope=0 then [] else zcP s (zbK v s)
theorem zhS (s:Sht) (b:Crs) (r:List Crs):zcP s (b :: r)=copB s.thick b.to b.frm s.tall (zdD s)++zcP s r:=rfl
theorem zi8 {f:Int→Bool} {hi:Int} (s:Sht):∀ {lo:Int} {m:List Crs},lo≤hi→Runs f hi lo m→((zcP s m).length:Int)≤hi - lo
 | _,[],h,_=>by simp [zcP]; omega
 | _,b :: r,h,⟨a1,a2,a3,a4,a5,a6,a7⟩=>by
  rw [zhS,List.length_append]
  have h1:=zrh s.thick b.to b.frm s.tall (zdD s)
  have h2:=zi8 s a3 a7
  omega
def thrT (bs:List Crs) (x:Int):Bool:=bs.any fun b=>decide (b.frm < x)&&decide (x < b.to)
def thrF (bs:List Crs) (L e:Int):Nat→Int→List Int
 | 0,_=>[]
 | f+1,x=>if x < L then(if thrT bs x=true then x :: thrF bs L e f (x+e) else thrF bs L e f (x+e)) else []
def thrX (bs:List Crs) (L e x:Int):List Int:=thrF bs L e (L - x).toNat x
theorem zlG {bs:List Crs} {L e:Int} (he:1≤e):∀ (f g:Nat) (x:Int),(L - x).toNat≤f→(L - x).toNat≤g→thrF bs L e f x=thrF bs L e g x
 | 0,0,_,_,_=>rfl
 | 0,g+1,x,hf,_=>by rw [thrF,thrF,if_neg (by omega)]
 | f+1,0,x,_,hg=>by rw [thrF,thrF,if_neg (by omega)]
 | f+1,g+1,x,hf,hg=>by
  rw [thrF,thrF]
  by_cases hx:x < L
  ·rw [if_pos hx,if_pos hx,zlG he f g (x+e) (by omega) (by omega)]
  ·rw [if_neg hx,if_neg hx]
theorem zlH {bs:List Crs} {L e x:Int} (he:1≤e) (hx:x < L):thrX bs L e x=if thrT bs x=true then x :: thrX bs L e (x+e) else thrX bs L e (x+e):=by
 unfold thrX
 obtain⟨f,hf⟩:∃ f,(L - x).toNat=f+1:=⟨(L - x).toNat - 1,by omega⟩
 rw [hf,thrF,if_pos hx,zlG he f ((L - (x+e)).toNat) (x+e) (by omega) (Nat.le_refl _)]
theorem znW {bs:List Crs} {L e x:Int} (hx:¬ x < L):thrX bs L e x=[]:=by
 unfold thrX
 rw [show(L - x).toNat=0 from by omega]; rfl
def thrI (s:Sht):Int:=zbJ (fun c:Crs=>decide (s.at_≤c.frm)) (zaj s)
def zi3 (s:Sht):Bool:=decide (s.every=0)||decide (thrI s < 0)
def zi2 (s:Sht):Int:=if zi3 s=true then -1 else thrI s
def thrL (v:Wll) (s:Sht):List Int:=if zi3 s=true then [] else thrX (zbg v ((zaj s).getD (thrI s).toNat default)) v.length s.every (s.every.tdiv 2)
def sumB (f:Crs→Int) (bs:List Crs):Int:=(bs.map f).sum
theorem zyy (f:Crs→Int):sumB f []=0:=rfl
theorem zft (f:Crs→Int) (b:Crs) (r:List Crs):sumB f (b :: r)=f b+sumB f r:=by unfold sumB; rw [List.map_cons,List.sum_cons]
def zcY (s:Sht) (c:Crs):Int:=min (2*s.skin) (zb5 s c.frm)
def zct (s:Sht) (c:Crs):Int:=max (zb5 s c.frm - 2*s.skin) 0
def zcw (c b:Crs):Int:=(b.to - b.frm)*(c.to - c.frm)
def zh0 (v:Wll) (s:Sht) (c:Crs):Int:=sumB (fun b=>zcw c b*zcY s c) (zbg v c)
def zfi (v:Wll) (s:Sht) (c:Crs):Int:=sumB (fun b=>zcw c b*zct s c) (zbg v c)
def zcJ (v:Wll) (s:Sht):Int:=sumB (zh0 v s) (zaj s)
def zca (v:Wll) (s:Sht):Int:=sumB (zfi v s) (zaj s)
def zdl (v:Wll) (s:Sht):Int:=v.length*s.footing*(s.base+2*s.spread)
def topF (s:Sht) (c:Cpe):Int:=c.width*c.high*zb5 s s.height
def topL (v:Wll) (s:Sht):Int:=((zbi v s).map (topF s)).sum
def zlt (v:Wll) (s:Sht):Int:=(100*v.length).tdiv s.rood
structure Qnt where
 face:Int
 heart:Int
 foot:Int
 top:Int
 throughs:Int
 copes:Int
 roods:Int
def zdz (v:Wll) (s:Sht):Qnt:=⟨zcJ v s,zca v s,zdl v s,topL v s,(thrL v s).length,(zbi v s).length,zlt v s⟩
end Go.Pln
namespace Go.Proofs
open Go.Shelf
def Tryz.sortOp_ren:Go.Shelf.Ren:=⟨fun | 6=>155 | 15=>174 | 14=>173 | 28=>191 | 29=>176 | 20=>183 | 21=>184 | 22=>185 | 23=>186 | 24=>187 | 25=>188 | 26=>189 | 27=>190 | 46=>196 | 47=>197 | 48=>198 | 49=>199 | 50=>200 | 57=>201 | n=>n,fun | 22=>92 | 24=>98 | 25=>216 | 3=>3 | 39=>90 | 0=>0 | 53=>234 | 55=>226 | 4=>4 | 46=>261 | 45=>260 | 50=>169 | 5=>5 | 9=>9 | 66=>271 | 70=>186 | 76=>278 | 77=>214 | n=>n,fun | n=>n⟩
theorem Tryz.sortOp:Go.Proofs.SlLaysF0.n6 Tryz.prog Tryz.sortOp_ren:={
 mixed:=by kernel_rfl
 f6:=⟨Tryz.f155.name,by decide,Tryz.func155.trans (congrArg some (by kernel_rfl))⟩
 f14:=⟨Tryz.f173.name,by decide,Tryz.func173.trans (congrArg some (by kernel_rfl))⟩
 f15:=Tryz.func174.trans (congrArg some (by kernel_rfl))
 f20:=⟨Tryz.f183.name,by decide,Tryz.func183.trans (congrArg some (by kernel_rfl))⟩
 f21:=⟨Tryz.f184.name,by decide,Tryz.func184.trans (congrArg some (by kernel_rfl))⟩
 f22:=⟨Tryz.f185.name,by decide,Tryz.func185.trans (congrArg some (by kernel_rfl))⟩
 f23:=⟨Tryz.f186.name,by decide,Tryz.func186.trans (congrArg some (by kernel_rfl))⟩
 f24:=⟨Tryz.f187.name,by decide,Tryz.func187.trans (congrArg some (by kernel_rfl))⟩
 f25:=⟨Tryz.f188.name,by decide,Tryz.func188.trans (congrArg some (by kernel_rfl))⟩
 f26:=⟨Tryz.f189.name,by decide,Tryz.func189.trans (congrArg some (by kernel_rfl))⟩
 f27:=⟨Tryz.f190.name,by decide,Tryz.func190.trans (congrArg some (by kernel_rfl))⟩
 f28:=Tryz.func191.trans (congrArg some (by kernel_rfl))
 f29:=Tryz.func176.trans (congrArg some (by kernel_rfl))
 f46:=⟨Tryz.f196.name,by decide,Tryz.func196.trans (congrArg some (by kernel_rfl))⟩
 f47:=Tryz.func197.trans (congrArg some (by kernel_rfl))
 f48:=Tryz.func198.trans (congrArg some (by kernel_rfl))
 f49:=⟨Tryz.f199.name,by decide,Tryz.func199.trans (congrArg some (by kernel_rfl))⟩
 f50:=⟨Tryz.f200.name,by decide,Tryz.func200.trans (congrArg some (by kernel_rfl))⟩
 f57:=⟨Tryz.f201.name,by decide,Tryz.func201.trans (congrArg some (by kernel_rfl))⟩
 t0:=Tryz.underlying0
 a0:=Tryz.isAgg0
 z0:=Tryz.sizeOf0
 v0:=Tryz.zeroValue0
 t3:=Tryz.underlying3
 a3:=Tryz.isAgg3
 z3:=Tryz.sizeOf3
 v3:=Tryz.zeroValue3
 t4:=Tryz.underlying4
 a4:=Tryz.isAgg4
 z4:=Tryz.sizeOf4
 v4:=Tryz.zeroValue4
 t5:=Tryz.underlying5
 a5:=Tryz.isAgg5
 z5:=Tryz.sizeOf5
 v5:=Tryz.zeroValue5
 t9:=Tryz.underlying9
 a9:=Tryz.isAgg9
 z9:=Tryz.sizeOf9
 v9:=Tryz.zeroValue9
 t22:=Tryz.underlying92
 a22:=Tryz.isAgg92
 z22:=Tryz.sizeOf92
 v22:=Tryz.zeroValue92
 t25:=Tryz.underlying216
 a25:=Tryz.isAgg216
 z25:=Tryz.sizeOf216
 v25:=Tryz.zeroValue216
 t39:=Tryz.underlying90
 a39:=Tryz.isAgg90
 z39:=Tryz.sizeOf90
 v39:=Tryz.zeroValue90
 t45:=Tryz.underlying260
 a45:=Tryz.isAgg260
 z45:=Tryz.sizeOf260
 v45:=Tryz.zeroValue260
 t46:=Tryz.underlying261
 a46:=Tryz.isAgg261
 z46:=Tryz.sizeOf261
 v46:=Tryz.zeroValue261
 t50:=Tryz.underlying169
 a50:=Tryz.isAgg169
 z50:=Tryz.sizeOf169
 v50:=Tryz.zeroValue169
 t53:=Tryz.underlying234
 a53:=Tryz.isAgg234
 z53:=Tryz.sizeOf234
 v53:=Tryz.zeroValue234
 t55:=Tryz.underlying226
 a55:=Tryz.isAgg226
 z55:=Tryz.sizeOf226
 v55:=Tryz.zeroValue226
 t66:=Tryz.underlying271
 a66:=Tryz.isAgg271
 z66:=Tryz.sizeOf271
 v66:=Tryz.zeroValue271
 t70:=Tryz.underlying186
 a70:=Tryz.isAgg186
 z70:=Tryz.sizeOf186
 v70:=Tryz.zeroValue186
 t76:=Tryz.underlying278
 a76:=Tryz.isAgg278
 z76:=Tryz.sizeOf278
 v76:=Tryz.zeroValue278
 t77:=Tryz.underlying214
 a77:=Tryz.isAgg214
 z77:=Tryz.sizeOf214
 v77:=Tryz.zeroValue214 }
end Go.Proofs
namespace Go.Proofs.YtdcfcfhmkfkgmaaGreatDoor
open Go.K Go.Stn Go.Pln Go.RowKit
theorem zuL:TF Tryz.prog 191 false 1 (.nilFunc):=⟨by kernel_rfl,by kernel_rfl⟩
theorem ztH:En Tryz.prog 120:=za7 Tryz.func120 (by kernel_rfl) (by kernel_rfl)
theorem zxh:En Tryz.prog 139:=za7 Tryz.func139 (by kernel_rfl) (by kernel_rfl)
theorem zxj:En Tryz.prog 154:=za7 Tryz.func154 (by kernel_rfl) (by kernel_rfl)
theorem zxk:En Tryz.prog 155:=za7 Tryz.func155 (by kernel_rfl) (by kernel_rfl)
theorem zxm:En Tryz.prog 172:=za7 Tryz.func172 (by kernel_rfl) (by kernel_rfl)
abbrev zke (o:Opn):List Value:=[.agg #[.int .u8 o.kind,.int .i64 o.at_,.int .i64 o.width,.int .i64 o.frm,.int .i64 o.high]]
theorem zrV {l:List Opn} {i:Int} (h0:0≤i) (h:i < (l.length:Int)):(l.map zke)[i.toNat]?=some (zke (l.getD i.toNat default)):=by
 rw [List.getElem?_map,List.getD_eq_getElem?_getD,List.getElem?_eq_getElem (by omega)]; rfl
theorem znC {l:List Opn} {n:Nat} {a:List Value} (h:(l.map zke)[n]?=some a):∃ o,l[n]?=some o∧a=zke o:=by
 rw [List.getElem?_map] at h
 cases e:l[n]? with
 | none=>rw [e] at h; cases h
 | some o=>rw [e] at h; cases h; exact⟨o,rfl,rfl⟩
theorem znD (l:List Opn):∀ a∈l.map zke,a.length=1:=fun a h=>by
 obtain⟨o,_,rfl⟩:=List.mem_map.1 h; rfl
theorem zoz {l:List Opn} {n:Nat} {o:Opn} (h:l[n]?=some o):l.take (n+1)=l.take n++[o]:=by
 rw [List.take_add_one,h]; rfl
set_option maxRecDepth 100000 in
set_option maxHeartbeats 1000000 in
theorem zqR (o:Opn) (w:World)  :
  Calls Tryz.prog 120 #[.agg #[.int .u8 o.kind,.int .i64 o.at_,.int .i64 o.width,.int .i64 o.frm,.int .i64 o.high]] w (Pure (.tuple #[.int .i64 o.at_,.int .i64 (W (o.at_+o.width))]) w):=by
 refine zan (vs:=[_]) Tryz.func120 rfl rfl (Nat.le_of_ble_eq_true rfl) ?_
 refine zac ?_
 refine zaa ?_
 refine zaG rfl rfl (za3 (vs:=[_,_,_,_,_]) rfl rfl) fun b1=>?_
 refine gk_y rfl rfl (zad rfl) ?_
 refine gk_y rfl rfl (zad rfl) ?_
 refine zag (zae (T':=[(1,_),(2,_),(3,_)]) ⟨rfl,rfl,rfl,trivial⟩ ?_)
 refine zac ?_
 refine zbb 9 (fun _=>mixed) (by kernel_rfl) ?_
 refine ph_y (zab zhf rfl) ?_
 refine ph_y (zah 0 tf3 rfl rfl rfl) ?_
 refine ph_y (zab zhf rfl) ?_
 refine ph_y (zah 0 tf3 rfl rfl rfl) ?_
 refine ph_y (zab zji rfl) ?_
 refine ph_y (zah 0 tf3 rfl rfl rfl) ?_
 refine ph_y (zfw rfl rfl) ?_
 refine ph_y (zad rfl) ?_
 refine ph_y (zad rfl) ?_
 refine zag (zae (T':=[(2,_),(3,_)]) ⟨rfl,rfl,trivial⟩ ?_)
 refine zaw ?_
 refine zay (zc2 rfl (zau rfl) (zau rfl)) ?_
 rfl
set_option maxRecDepth 100000 in
set_option maxHeartbeats 1000000 in
theorem zr3 (x y:Opn) (b:Nat) (w:World) (hb:Has w (Box b [.func (.func 120) #[] #[]] 191)) :
  Calls Tryz.prog 138 #[.agg #[.int .u8 x.kind,.int .i64 x.at_,.int .i64 x.width,.int .i64 x.frm,.int .i64 x.high],.agg #[.int .u8 y.kind,.int .i64 y.at_,.int .i64 y.width,.int .i64 y.frm,.int .i64 y.high],.pointer (some ⟨b,0,none⟩)] w (Pure (.int .i64 (cmpI x.at_ y.at_)) w):=by
 refine zan (vs:=[_,_,_]) Tryz.func138 rfl rfl (Nat.le_of_ble_eq_true rfl) ?_
 refine zac ?_
 refine zaa ?_
 refine zaG rfl rfl (za3 (vs:=[_,_,_,_,_]) rfl rfl) fun b3=>?_
 refine zaG rfl rfl (za3 (vs:=[_,_,_,_,_]) rfl rfl) fun b4=>?_
 refine gk_y rfl rfl (zad rfl) ?_
 refine zag (zae (T':=[(2,_),(3,_),(4,_),(5,_)]) ⟨rfl,rfl,rfl,rfl,trivial⟩ ?_)
 refine zac ?_
 refine zaa ?_
 refine gk_y rfl rfl (zbW zuL rfl (fun _ hw=>zaQ (Rd.has (Has.rd hb) hw) rfl)) ?_
 refine gk_y rfl rfl (zat 1 tf98 rfl rfl (vs:=[_,_,_,_,_]) rfl rfl) ?_
 refine gk_y rfl rfl (zde (fs:=[]) (cap:=[]) ztH rfl rfl (fun w hw=>zqR x w)) ?_
 refine gk_y rfl rfl (zaf rfl) ?_
 refine gk_y rfl rfl (zaB rfl rfl) ?_
 refine gk_y rfl rfl (zaB rfl rfl) ?_
 refine gk_y rfl rfl (zad rfl) ?_
 refine gk_y rfl rfl (zad rfl) ?_
 refine zag (zae (T':=[(2,_),(4,_),(5,_),(6,_)]) ⟨rfl,rfl,rfl,rfl,trivial⟩ ?_)
 refine zac ?_
 refine zaa ?_
 refine gk_y rfl rfl (zbW zuL rfl (fun _ hw=>zaQ (Rd.has (Has.rd hb) hw) rfl)) ?_
 refine gk_y rfl rfl (zat 0 tf98 rfl rfl (vs:=[_,_,_,_,_]) rfl rfl) ?_
 refine gk_y rfl rfl (zde (fs:=[]) (cap:=[]) ztH rfl rfl (fun w hw=>zqR y w)) ?_
 refine gk_y rfl rfl (zaf rfl) ?_
 refine gk_y rfl rfl (zaB rfl rfl) ?_
 refine gk_y rfl rfl (zaB rfl rfl) ?_
 refine gk_y rfl rfl (zad rfl) ?_
 refine gk_y rfl rfl (zad rfl) ?_
 refine zag (zae (T':=[(5,_),(6,_),(8,_)]) ⟨rfl,rfl,rfl,trivial⟩ ?_)
 refine zac ?_
 refine zaa ?_
 refine gk_y rfl rfl (zaf rfl) ?_
 refine gk_y rfl rfl (zaf rfl) ?_
 refine gk_y rfl rfl (zaJ zxh rfl (fun w hw=>zo7 _ _ w)) ?_
 refine gk_y rfl rfl (zad rfl) ?_
 refine zag (zae (T':=[(5,_)]) ⟨rfl,trivial⟩ ?_)
 refine zaw ?_
 refine zay (zaC rfl (zau rfl)) ?_
 rfl
set_option maxRecDepth 100000 in
set_option maxHeartbeats 1000000 in
theorem zqV (l:List Opn) (a:Option Addr) (cap:Nat) (b:Nat) (hs:zaP l.length) :
  SeqC Tryz.prog 156 [.pointer (some ⟨b,0,none⟩)] (l.map zke) (fun w=>Has w (Box b [.slice a l.length cap] 92)∧Has w (zaW a 5 zba l)):=by
 intro X J Rl D y w B x0 hB hA h0 hM hy
 refine zby hB hA (vs:=[_,_]) Tryz.func156 rfl rfl (Nat.le_of_ble_eq_true rfl) ?_
 have hmem:∀ {cz:Cx} {Hz:List Res} {xz:X} {pz:Nat} {w':World},Inside (fun k=>k < w.heap.size∧¬ B k) w cz→Hz[pz]?=some (J xz)→Hp cz.U cz.w0 Hz w'→(Has w' (Box b [.slice a l.length cap] 92)∧Has w' (zaW a 5 zba l)):=fun hin hp hw=>by
  obtain⟨B',q1,q2,q3,q4⟩:=zqm hin hp hw
  exact hM _ _ B' q4 q1 q2 q3
 have ins0:=zpY Tryz.prog Tryz.f156.ntmps w B
 refine zac ?_
 refine zaa ?_
 refine gk_y rfl rfl (zbW tf92 rfl (fun _ hw=>zaQ (hmem ins0 (pz:=0) rfl hw).1 rfl)) ?_
 refine gk_y rfl rfl (zaV (Tryz.underlying92) rfl) ?_
 refine gk_y rfl rfl (zaf rfl) ?_
 refine zag (zae (T':=[(0,_),(5,_),(6,_),(7,_)]) ⟨rfl,rfl,rfl,rfl,trivial⟩ ?_)
 refine zas ?_
 refine zbf (X:=Int×X) (fun⟨i,x2⟩=>[(0,.func (.yield y) #[] #[]),(5,.slice a l.length cap),(6,.int .i64 (l.length:Int)),(7,.int .i64 i)]) (fun⟨i,x2⟩=>[J x2]) (fun⟨i,x2⟩=>(0≤i∧i≤l.length∧Rl i.toNat x2)) (fun⟨i,x2⟩=>(l.length - i).toNat) (0,x0) ⟨rfl,rfl,rfl,rfl,trivial⟩ rfl ?_ ?_
 ·exact⟨by omega,by omega,h0⟩
 ·rintro ⟨i,x2⟩ hI
  obtain⟨g0,g1,g2⟩:=hI
  refine zac ?_
  refine zaa ?_
  refine gk_y rfl rfl (zbw rfl rfl) ?_
  refine zag (zae (T':=[(0,_),(5,_),(6,_),(7,_),(8,_)]) ⟨rfl,rfl,rfl,rfl,rfl,trivial⟩ ?_)
  refine zac ?_
  refine zap rfl (fun hc8=>?_) (fun hc8=>?_)
  ·simp only [decide_eq_true_eq] at hc8
   refine zaq ?_
   refine zac ?_
   refine zas ?_
   refine zac ?_
   refine zaa ?_
   refine gk_y rfl rfl (zaE se92 rfl rfl (fun _ hw=>(hmem ins0 (pz:=0) rfl hw).2) (by omega) (by omega)) ?_
   refine gk_y rfl rfl (zbv (vs:=[_,_,_,_,_]) tf98 rfl (fun _ hw=>(hmem ins0 (pz:=0) rfl hw).2) (by omega) (by omega) rfl) ?_
   refine zaG rfl rfl (zaL tf98 (zs:=[_,_,_,_,_]) rfl) fun b4=>?_
   refine zaA 0 tf98 rfl rfl (vs:=[_,_,_,_,_]) rfl rfl rfl rfl rfl ?_
   refine zag (zae (T':=[(0,_),(4,_),(5,_),(6,_),(7,_)]) ⟨rfl,rfl,rfl,rfl,rfl,trivial⟩ ?_)
   refine zac ?_
   refine zaa ?_
   refine gk_y rfl rfl (zaf rfl) ?_
   refine gk_y rfl rfl (zat 0 tf98 rfl rfl (vs:=[_,_,_,_,_]) rfl rfl) ?_
   refine znl 1 ins0 rfl rfl rfl rfl (hy _ _ _ (zrV g0 (by omega)) g2) fun b13 x13 hp13=>?_
   refine gk_y rfl rfl (zbR rfl) ?_
   refine zag (zae (T':=[(0,_),(5,_),(6,_),(7,_),(14,_)]) ⟨rfl,rfl,rfl,rfl,rfl,trivial⟩ ?_)
   refine zap rfl (fun hc14=>?_) (fun hc14=>?_)
   ·
    refine zaw ?_
    refine zd9 x13 1 (zcN rfl) rfl rfl (.inr (by have:=hp13; rwa [show b13=false from by simpa using hc14,if_neg Bool.false_ne_true] at this))
   ·
    refine zaq ?_
    refine zaa ?_
    refine gk_y rfl rfl (zaY rfl rfl (by omega) (by omega)) ?_
    refine gk_y rfl rfl (zaf rfl) ?_
    refine zag (zae (T':=[(0,_),(5,_),(6,_),(7,_)]) ⟨rfl,rfl,rfl,rfl,trivial⟩ ?_)
    refine zaK 0 rfl ?_
    exact za1 (i+1,x13) ⟨rfl,rfl,rfl,rfl,trivial⟩ rfl ⟨by omega,by omega,by have:=hp13; rw [show b13=true from by simpa using hc14,if_pos rfl] at this; rwa [show(i+1).toNat=i.toNat+1 from by omega]⟩ (by simp only []; omega)
  ·simp only [decide_eq_false_iff_not] at hc8
   refine za8 rfl ?_
   refine zd9 x2 0 (zcN rfl) rfl rfl (.inl (by rw [List.length_map]; rwa [show i.toNat=l.length from by omega] at g2))
set_option maxRecDepth 100000 in
set_option maxHeartbeats 1000000 in
theorem zlQ (xs:List Opn) (gg:FuncId) (gcap:List Value) (w:World) (hs:zaP xs.length) (M:World→Prop) (hM:∀ w',Ext w w'→M w') (hen:En Tryz.prog gg) (hseq:SeqC Tryz.prog gg gcap (xs.map zke) M) :
  Calls Tryz.prog 172 #[.slice none 0 0,.func (.func gg) #[] gcap.toArray] w (zcU (fun z:Option Addr×Nat=>.slice z.1 xs.length z.2) (fun z=>Row z.1 5 z.2 98 zba xs) w):=by
 refine zan (vs:=[_,_]) Tryz.func172 rfl rfl (Nat.le_of_ble_eq_true rfl) ?_
 refine zac ?_
 refine zaa ?_
 refine zaG rfl rfl (za3 (vs:=[_]) rfl rfl) fun b2=>?_
 refine gk_y rfl rfl (zad rfl) ?_
 refine zag (zae (T':=[(1,_),(2,_),(4,_)]) ⟨rfl,rfl,rfl,trivial⟩ ?_)
 refine zac ?_
 refine zac ?_
 refine zaa ?_
 refine gk_y rfl rfl (zaf rfl) ?_
 refine zag (zae (T':=[(2,_),(4,_),(6,_)]) ⟨rfl,rfl,rfl,trivial⟩ ?_)
 refine zas ?_
 refine zbB 98 zba 5 ?_
 refine zae (T':=[(2,_),(4,_),(6,_)]) ⟨rfl,rfl,rfl,trivial⟩ ?_
 refine zk1 (X:=Option Addr×Nat×List Opn) (fun⟨b,bc,m⟩=>[Row b 5 bc 98 zba m,Box b2 [.slice b m.length bc] 92]) (fun n ⟨b,bc,m⟩=>m=xs.take n) (fun⟨b,bc,m⟩=>False) [] (none,0,[]) rfl hen rfl rfl rfl hseq (fun⟨b,bc,m⟩ w hw=>hM _ hw.base.ext0) (znD _) rfl ?_ ?_ ?_ ?_
 ·rintro R1 R2 rl U' w' n ⟨b,bc,m⟩ args hget hR hrd hins hbeg
  obtain⟨o,hp,rfl⟩:=znC hget
  have hlen:m.length≤xs.length:=by rw [hR,List.length_take]; omega
  refine zae (T':=[(2,_),(7,_)]) ⟨rfl,rfl,trivial⟩ ?_
  refine zaa ?_
  refine zaG rfl rfl (zaL tf98 (zs:=[_,_,_,_,_]) rfl) fun b5=>?_
  refine zaA 0 tf98 rfl rfl (vs:=[_,_,_,_,_]) rfl rfl rfl rfl rfl ?_
  refine zag (zae (T':=[(2,_),(5,_)]) ⟨rfl,rfl,trivial⟩ ?_)
  refine zao 1 rfl ?_
  refine hbeg _ _ _ ?_
  refine zas ?_
  refine zaa ?_
  refine gk_y rfl rfl (zah 3 tf92 rfl rfl rfl) ?_
  refine gk_y rfl rfl (zat 1 tf98 rfl rfl (vs:=[_,_,_,_,_]) rfl rfl) ?_
  refine zaG rfl rfl (zaD rfl (zo2 _ _ _ _ _) encOpn_ok rfl) fun b10=>?_
  refine zb4 (m:=[o]) 3 af92 encOpn_ok rfl rfl rfl rfl (fun _ hw=>(zam encOpn_ok (hw.has (p:=0) rfl))) (by first | omega | (simp only [List.length_cons,List.length_nil]; omega)) (by first | (unfold maxLen; omega) | (simp only [List.length_cons,List.length_nil,maxLen]; omega)) fun a11 c11=>?_
  refine zaA 4 tf92 rfl rfl (vs:=[_]) rfl rfl rfl rfl rfl ?_
  refine zag (zae (T':=[]) trivial ?_)
  refine zaK 0 rfl ?_
  refine zaK 1 rfl ?_
  exact zb9 (a11,c11,_) trivial rfl (by rw [zoz hp,←hR])
 ·rintro Dm ⟨b,bc,m⟩ hR
  obtain rfl:m=xs:=by rw [hR]; simp
  refine zac ?_
  refine zaa ?_
  refine gk_y rfl rfl (zah 2 tf92 rfl rfl rfl) ?_
  refine gk_y rfl rfl (zad rfl) ?_
  refine zag (zae (T':=[(4,_)]) ⟨rfl,trivial⟩ ?_)
  refine zaw ?_
  refine zil 0 rfl ?_
  refine zbd (b,bc) 0 (zaC rfl (zau rfl)) ?_ rfl
  rfl
 ·exact fun _ _ h=>h.elim
 ·exact fun _ _ _ _ h=>absurd h (by simp)
set_option maxRecDepth 100000 in
set_option maxHeartbeats 1000000 in
theorem zo6 (xs:List Opn) (gg:FuncId) (gcap:List Value) (w:World) (hs:zaP xs.length) (M:World→Prop) (hM:∀ w',Ext w w'→M w') (hen:En Tryz.prog gg) (hseq:SeqC Tryz.prog gg gcap (xs.map zke) M) :
  Calls Tryz.prog 154 #[.func (.func gg) #[] gcap.toArray] w (zcU (fun z:Option Addr×Nat=>.slice z.1 xs.length z.2) (fun z=>Row z.1 5 z.2 98 zba xs) w):=by
 refine zan (vs:=[_]) Tryz.func154 rfl rfl (Nat.le_of_ble_eq_true rfl) ?_
 refine zac ?_
 refine zaa ?_
 refine gk_y rfl rfl (zad rfl) ?_
 refine zag (zae (T':=[(0,_),(2,_)]) ⟨rfl,rfl,trivial⟩ ?_)
 refine zac ?_
 refine zaa ?_
 refine gk_y rfl rfl (zaf rfl) ?_
 refine zaG rfl rfl (zbm zxm rfl (fun w hw=>zlQ xs _ _ w (by assumption) M (fun w' hx=>hM w' (hw.base.ext0.trans hx)) hen hseq)) fun p4=>?_
 refine gk_y rfl rfl (zad rfl) ?_
 refine zag (zae (T':=[(2,_)]) ⟨rfl,trivial⟩ ?_)
 refine zaw ?_
 refine zbd p4 0 (zaC rfl (zau rfl)) ?_ rfl
 rfl
theorem zwg {w w':World} {B:Nat→Prop} {R:Res} (h:Rd (fun k=>k < w.heap.size∧¬ B k) w R) (hm:Mod B w w'):Has w' R:=by
 obtain⟨C,hC,hA⟩:=h
 exact⟨C,fun k hk=>Nat.lt_of_lt_of_le (hC k hk).1 hm.size,R.loc C w w' (fun k hk=>hm.same k (hC k hk).1 (hC k hk).2) hA⟩
def Ord (xs m:List Opn):Prop:=m.Perm xs∧m.Pairwise fun x y=>x.at_≤y.at_
theorem zsk (a:Option Addr) (cap:Nat) (l:List Opn) (w:World) (B:Nat→Prop) (hB:∀ i,B i→i < w.heap.size) (hA:(Row a 5 cap 98 zba l).A B w) (hs:l.length < 4611686018427387904) (cg:FuncId) (ccap:List Value) (hcg:En Tryz.prog cg) (R:Res) (hS:Rd (fun k=>k < w.heap.size∧¬ B k) w R) (hcc:∀ x y w',Has w' R→Calls Tryz.prog cg (#[.agg (zba x).toArray,.agg (zba y).toArray]++ccap.toArray) w' (Pure (.int .i64 (cmpI x.at_ y.at_)) w')) :
  Calls Tryz.prog 155 #[.slice a l.length cap,.func (.func cg) #[] ccap.toArray] w (zho (fun _:List Opn=>.tuple #[]) (fun m=>Row a 5 cap 98 zba m) (Ord l) B w):=by
 have aE:∀ w,(isAgg (Tryz.sortOp_ren.t 24)).run Tryz.prog w=.ok true w:=fun w=>TF.agg tf98
 have zE:∀ w,(Go.sizeOf (Tryz.sortOp_ren.t 24)).run Tryz.prog w=.ok 5 w:=fun w=>TF.size tf98
 have hlt:∀ x y:Opn,Go.Proofs.ltOf (fun x y:Opn=>cmpI x.at_ y.at_) x y=decide (x.at_ < y.at_):=fun x y=>by
  unfold Go.Proofs.ltOf
  rw [decide_eq_decide]
  show cmpI x.at_ y.at_ < 0↔_
  unfold cmpI
  split
  ·omega
  ·split <;> omega
 refine(zoy Tryz.sortOp aE zE encOpn_ok (by decide) (fun x v hv=>zg0 (List.all_eq_true.1 (encOpn_ok.one x) v hv)) (fun x y:Opn=>cmpI x.at_ y.at_)
  ⟨fun x=>by rw [hlt,decide_eq_false_iff_not]; omega,fun x y z=>by simp only [hlt,decide_eq_true_eq]; omega,fun x y z=>by simp only [hlt,decide_eq_false_iff_not]; omega⟩ cg ccap hcg (fun x y w' hm=>hcc x y w' (zwg hS hm)) hB hA hs).mono ?_
 rintro e w' ⟨m,B',h1,⟨h2,h3⟩,h4,h5,h6⟩
 exact⟨m,B',h1,⟨h2,h3.imp fun {x y} h=>by rw [hlt,decide_eq_false_iff_not] at h; omega⟩,h4,h5,h6⟩
set_option maxRecDepth 100000 in
set_option maxHeartbeats 1000000 in
theorem zqQ (xs:List Opn) (gg:FuncId) (gcap:List Value) (cg:FuncId) (ccap:List Value) (hcg:En Tryz.prog cg) (R:Res) (w:World) (hs:zaP xs.length) (M:World→Prop) (hM:∀ w',Ext w w'→M w') (hen:En Tryz.prog gg) (hseq:SeqC Tryz.prog gg gcap (xs.map zke) M) (hS:Has w R) (hcc:∀ x y w',Has w' R→Calls Tryz.prog cg (#[.agg (zba x).toArray,.agg (zba y).toArray]++ccap.toArray) w' (Pure (.int .i64 (cmpI x.at_ y.at_)) w')) :
  Calls Tryz.prog 136 #[.func (.func gg) #[] gcap.toArray,.func (.func cg) #[] ccap.toArray] w (zcU (fun z:{z:Option Addr×Nat×List Opn // Ord xs z.2.2}=>.slice z.1.1 z.1.2.2.length z.1.2.1) (fun z=>Row z.1.1 5 z.1.2.1 98 zba z.1.2.2) w):=by
 refine zan (vs:=[_,_]) Tryz.func136 rfl rfl (Nat.le_of_ble_eq_true rfl) ?_
 refine zac ?_
 refine zaa ?_
 refine gk_y rfl rfl (zad rfl) ?_
 refine zag (zae (T':=[(0,_),(1,_),(4,_)]) ⟨rfl,rfl,rfl,trivial⟩ ?_)
 refine zac ?_
 refine zaa ?_
 refine gk_y rfl rfl (zaf rfl) ?_
 refine zaG rfl rfl (zbm zxj rfl (fun w hw=>zo6 xs _ _ w (by assumption) M (fun w' hx=>hM w' (hw.base.ext0.trans hx)) hen hseq)) fun p7=>?_
 refine gk_y rfl rfl (zad rfl) ?_
 refine zag (zae (T':=[(1,_),(4,_),(5,_)]) ⟨rfl,rfl,rfl,trivial⟩ ?_)
 refine zac ?_
 refine zaa ?_
 refine gk_y rfl rfl (zaf rfl) ?_
 refine gk_y rfl rfl (zaf rfl) ?_
 refine zjY 0 zxk rfl rfl rfl (fun w B hF=>zsk _ _ xs w B (fun k hk=>(hF.own k hk).2) hF.A (by unfold zaP at hs; omega) cg ccap hcg R (hF.rd (Has.rd hS)) hcc) fun m10 hq10=>?_
 refine zag (zae (T':=[(4,_),(5,_)]) ⟨rfl,rfl,trivial⟩ ?_)
 refine zac ?_
 refine zaa ?_
 refine gk_y rfl rfl (zaf rfl) ?_
 refine gk_y rfl rfl (zad rfl) ?_
 refine zag (zae (T':=[(4,_)]) ⟨rfl,trivial⟩ ?_)
 refine zaw ?_
 refine zbd ⟨(p7.1,p7.2,m10),hq10⟩ 0 (zaC rfl (zau rfl)) ?_ rfl
 show Value.slice p7.1 xs.length p7.2=Value.slice p7.1 m10.length p7.2
 rw [hq10.1.length_eq]
end Go.Proofs.YtdcfcfhmkfkgmaaGreatDoor
namespace Go.Proofs.YtdcfcfhmkfkgmaaGreatDoor
open Go.K Go.Stn Go.Pln Go.RowKit
theorem tf59:TF Tryz.prog 59 false 1 (.slice none 0 0):=⟨by kernel_rfl,by kernel_rfl⟩
theorem af59:AF Tryz.prog 59 69 2 16 [.int IntKind.i64 0,.int IntKind.i64 0]:=⟨Tryz.underlying59,by kernel_rfl,rfl⟩
theorem zxe:En Tryz.prog 136:=za7 Tryz.func136 (by kernel_rfl) (by kernel_rfl)
theorem zxf:En Tryz.prog 137:=za7 Tryz.func137 (by kernel_rfl) (by kernel_rfl)
theorem zxg:En Tryz.prog 138:=za7 Tryz.func138 (by kernel_rfl) (by kernel_rfl)
theorem zvT:En Tryz.prog 140:=za7 Tryz.func140 (by kernel_rfl) (by kernel_rfl)
theorem zxl:En Tryz.prog 156:=za7 Tryz.func156 (by kernel_rfl) (by kernel_rfl)
theorem zi7 (x0:Int) (x1:Int) (w:World):(Instr.build 69 #[(0,.int .i64 x0),(1,.int .i64 x1)]).run Tryz.prog w=.ok (.agg #[.int .i64 x0,.int .i64 x1]) w:=by kernel_rfl
theorem zvc (x0_0:Int) (x0_1:Int) (w:World):(Instr.buildSlice 59 1 #[(0,.agg #[.int .i64 x0_0,.int .i64 x0_1])]).run Tryz.prog w=.ok (.slice (some ⟨w.heap.size,0,none⟩) 1 1) (w.alloc (.cells (([⟨x0_0,x0_1⟩]:List (Crs)).flatMap zbq).toArray 69)):=by kernel_rfl
set_option maxRecDepth 100000 in
set_option maxHeartbeats 1000000 in
theorem znE (p q:Nat) (a:Int) (m:List Crs) (t:Int) (w:World) (B:Nat→Prop) (hB:∀ k,B k→k < w.heap.size) (hA:(SwR 3 59 69 p q a m).A B w) (hm:m.length≤100000) :
  Calls Tryz.prog 140 #[.int .i64 t,.pointer (some ⟨p,0,none⟩),.pointer (some ⟨q,0,none⟩)] w (zho (fun _:Unit=>.tuple #[]) (fun _=>SwR 3 59 69 p q a (swM a t m)) (fun _=>True) B w):=by
 refine zby hB hA (vs:=[_,_,_]) Tryz.func140 rfl rfl (Nat.le_of_ble_eq_true rfl) ?_
 refine zii fun ra1 rc1=>?_
 refine zac ?_
 refine zaa ?_
 refine gk_y rfl rfl (zaf rfl) ?_
 refine gk_y rfl rfl (zah 0 tf3 rfl rfl rfl) ?_
 refine gk_y rfl rfl (zc6 rfl rfl) ?_
 refine zag (zae (T':=[(0,_),(1,_),(2,_),(6,_)]) ⟨rfl,rfl,rfl,rfl,trivial⟩ ?_)
 refine zap rfl (fun hc6=>?_) (fun hc6=>?_)
 ·
  refine zaa ?_
  refine gk_y rfl rfl (zah 1 tf59 rfl rfl rfl) ?_
  refine gk_y rfl rfl (zah 0 tf3 rfl rfl rfl) ?_
  refine gk_y rfl rfl (zaf rfl) ?_
  refine gk_y rfl rfl (zaI rfl (zi7 _ _)) ?_
  refine zaG rfl rfl (zaD rfl (zvc _ _) zax rfl) fun b11=>?_
  refine zb4 (m:=[(⟨a,t⟩:Crs)]) 3 af59 zax rfl rfl rfl rfl (fun _ hw=>(zam zax (hw.has (p:=0) rfl))) (by first | omega | (simp only [List.length_cons,List.length_nil]; omega)) (by first | (unfold maxLen; omega) | (simp only [List.length_cons,List.length_nil,maxLen]; omega)) fun a12 c12=>?_
  refine zaA 2 tf59 rfl rfl (vs:=[_]) rfl rfl rfl rfl rfl ?_
  refine zag (zae (T':=[]) trivial ?_)
  refine zao 3 rfl ?_
  refine zao 3 rfl ?_
  refine zao 3 rfl ?_
  refine zfF (a:=a) ?_
  exact zd9 () 0 (zcN rfl) rfl (by rw [←zwm hc6]; rfl) trivial
 ·
  refine zaq ?_
  refine zao 2 rfl ?_
  refine zao 2 rfl ?_
  refine zao 2 rfl ?_
  refine zfF (a:=a) ?_
  exact zd9 () 0 (zcN rfl) rfl (by rw [←zxB hc6]; rfl) trivial
set_option maxRecDepth 100000 in
set_option maxHeartbeats 1000000 in
theorem zsr (a:Option Addr) (cap:Nat) (l:List Opn) (w:World)  :
  Calls Tryz.prog 137 #[.slice a l.length cap] w (zcU (fun b:Nat=>.func (.func 156) #[] #[.pointer (some ⟨b,0,none⟩)]) (fun b=>Box b [.slice a l.length cap] 92) w):=by
 refine zan (vs:=[_]) Tryz.func137 rfl rfl (Nat.le_of_ble_eq_true rfl) ?_
 refine zac ?_
 refine zaa ?_
 refine zaG rfl rfl (za3 (vs:=[_]) rfl rfl) fun b1=>?_
 refine gk_y rfl rfl (zad rfl) ?_
 refine zag (zae (T':=[(1,_),(2,_)]) ⟨rfl,rfl,trivial⟩ ?_)
 refine zac ?_
 refine zaa ?_
 refine gk_y rfl rfl (zbO («as»:=[]) (bs:=[_]) rfl rfl) ?_
 refine gk_y rfl rfl (zad rfl) ?_
 refine zag (zae (T':=[(2,_)]) ⟨rfl,trivial⟩ ?_)
 refine zaw ?_
 refine zbd b1 0 (zaC rfl (zau rfl)) ?_ rfl
 rfl
set_option maxRecDepth 100000 in
set_option maxHeartbeats 4000000 in
theorem zut (L:Int) (a:Option Addr) (cap:Nat) (l:List Opn) (w:World) (hl:Has w (zaW a 5 zba l)) (hs:zaP l.length) (hL0:0≤L) (hL:L≤100000) (hw:InW l L) :
  Calls Tryz.prog 119 #[.int .i64 L,.slice a l.length cap,.func (.func 120) #[] #[]] w (zcU (fun z:Option Addr×Nat=>.slice z.1 (bayL (zcH l) L).length z.2) (fun z=>Row z.1 2 z.2 69 zbq (bayL (zcH l) L)) w):=by
 have hwin:=hw
 refine zan (vs:=[_,_,_]) Tryz.func119 rfl rfl (Nat.le_of_ble_eq_true rfl) ?_
 refine zac ?_
 refine zaa ?_
 refine zaG rfl rfl (za3 (vs:=[_]) rfl rfl) fun b5=>?_
 refine gk_y rfl rfl (zad rfl) ?_
 refine zag (zae (T':=[(0,_),(1,_),(5,_),(6,_)]) ⟨rfl,rfl,rfl,rfl,trivial⟩ ?_)
 refine zac ?_
 refine zaa ?_
 refine gk_y rfl rfl (zaf rfl) ?_
 refine zaG rfl rfl (zbm zxf rfl (fun w hw=>zsr _ _ l w)) fun p15=>?_
 refine gk_y rfl rfl (zbO («as»:=[]) (bs:=[_]) rfl rfl) ?_
 refine zaG rfl rfl (zbm zxe rfl (fun w hw=>zqQ l 156 _ 138 _ zxg (Box b5 [.func (.func 120) #[] #[]] 191) w (by assumption) (fun w'=>Has w' (Box p15 [.slice a l.length cap] 92)∧Has w' (zaW a 5 zba l)) (fun w' hx=>⟨Has.ext (hw.has (p:=0) rfl) hx,Has.ext (Rd.has (Has.rd hl) hw) hx⟩) zxl (zqV l a cap p15 (by assumption)) (hw.has (p:=1) rfl) (fun x y w' hb=>zr3 x y b5 w' hb))) fun p17=>?_
 refine gk_y rfl rfl (zad rfl) ?_
 refine zag (zae (T':=[(0,_),(1,_),(5,_),(6,_)]) ⟨rfl,rfl,rfl,rfl,trivial⟩ ?_)
 have hwz:InW p17.1.2.2 L:=fun o ho=>hwin o (p17.2.1.mem_iff.1 ho)
 have hsz:=p17.2.2
 have hlz:p17.1.2.2.length=l.length:=p17.2.1.length_eq
 refine zac ?_
 refine zaa ?_
 refine zaG rfl rfl (zaL tf59 (zs:=[_]) rfl) fun b7=>?_
 refine zag (zae (T':=[(0,_),(1,_),(5,_),(6,_),(7,_)]) ⟨rfl,rfl,rfl,rfl,rfl,trivial⟩ ?_)
 refine zac ?_
 refine zaa ?_
 refine zaG rfl rfl (zaL tf3 (zs:=[_]) rfl) fun b8=>?_
 refine zaA 0 tf3 rfl rfl (vs:=[_]) rfl rfl rfl rfl rfl ?_
 refine zag (zae (T':=[(0,_),(1,_),(5,_),(6,_),(7,_),(8,_)]) ⟨rfl,rfl,rfl,rfl,rfl,rfl,trivial⟩ ?_)
 refine zac ?_
 refine zaa ?_
 refine gk_y rfl rfl (zbO («as»:=[]) (bs:=[_,_]) rfl rfl) ?_
 refine gk_y rfl rfl (zad rfl) ?_
 refine zag (zae (T':=[(0,_),(1,_),(5,_),(6,_),(7,_),(8,_),(9,_)]) ⟨rfl,rfl,rfl,rfl,rfl,rfl,rfl,trivial⟩ ?_)
 refine zac ?_
 refine zac ?_
 refine zaa ?_
 refine gk_y rfl rfl (zaf rfl) ?_
 refine gk_y rfl rfl (zaV (Tryz.underlying92) rfl) ?_
 refine gk_y rfl rfl (zaf rfl) ?_
 refine zag (zae (T':=[(0,_),(5,_),(6,_),(7,_),(8,_),(9,_),(19,_),(20,_),(21,_)]) ⟨rfl,rfl,rfl,rfl,rfl,rfl,rfl,rfl,rfl,trivial⟩ ?_)
 refine zbB 69 zbq 2 ?_
 refine zao 2 rfl ?_
 refine zao 2 rfl ?_
 refine zfF (a:=0) (m:=[]) ?_
 refine zas ?_
 refine zbf (X:=Int×Int×List Crs) (fun⟨i,a2,m⟩=>[(0,.int .i64 L),(5,.pointer (some ⟨b5,0,none⟩)),(6,.slice none 0 0),(7,.pointer (some ⟨b7,0,none⟩)),(8,.pointer (some ⟨b8,0,none⟩)),(9,.func (.func 140) #[] #[.pointer (some ⟨b8,0,none⟩),.pointer (some ⟨b7,0,none⟩)]),(19,.slice p17.1.1 p17.1.2.2.length p17.1.2.1),(20,.int .i64 (p17.1.2.2.length:Int)),(21,.int .i64 i)]) (fun⟨i,a2,m⟩=>[SwR 3 59 69 b8 b7 a2 m,Row p17.1.1 5 p17.1.2.1 98 zba p17.1.2.2,Box p15 [.slice a l.length cap] 92,Box b5 [.func (.func 120) #[] #[]] 191]) (fun⟨i,a2,m⟩=>(0≤i∧i≤p17.1.2.2.length∧SwI p17.1.2.2 L i.toNat a2 m)) (fun⟨i,a2,m⟩=>(p17.1.2.2.length - i).toNat) (0,0,[]) ⟨rfl,rfl,rfl,rfl,rfl,rfl,rfl,rfl,rfl,trivial⟩ rfl ?_ ?_
 ·exact⟨by omega,by omega,zsl _ hL0⟩
 ·rintro ⟨i,a2,m⟩ hI
  obtain⟨g0,g1,g2⟩:=hI
  have hml:=g2.many
  refine zac ?_
  refine zaa ?_
  refine gk_y rfl rfl (zbw rfl rfl) ?_
  refine zag (zae (T':=[(0,_),(5,_),(6,_),(7,_),(8,_),(9,_),(19,_),(20,_),(21,_),(22,_)]) ⟨rfl,rfl,rfl,rfl,rfl,rfl,rfl,rfl,rfl,rfl,trivial⟩ ?_)
  refine zac ?_
  refine zap rfl (fun hc22=>?_) (fun hc22=>?_)
  ·have hc22:=of_decide_eq_true hc22
   obtain⟨q1,q2,q3⟩:=hwz (p17.1.2.2.getD i.toNat default) (za0 (by omega))
   refine zaq ?_
   refine zac ?_
   refine zas ?_
   refine zac ?_
   refine zaa ?_
   refine gk_y rfl rfl (zaE se92 rfl rfl (fun _ hw=>(zam encOpn_ok (hw.has (p:=1) rfl))) (by omega) (by omega)) ?_
   refine gk_y rfl rfl (zbv (vs:=[_,_,_,_,_]) tf98 rfl (fun _ hw=>(zam encOpn_ok (hw.has (p:=1) rfl))) (by omega) (by omega) rfl) ?_
   refine zaG rfl rfl (zaL tf98 (zs:=[_,_,_,_,_]) rfl) fun b11=>?_
   refine zaA 0 tf98 rfl rfl (vs:=[_,_,_,_,_]) rfl rfl rfl rfl rfl ?_
   refine zag (zae (T':=[(0,_),(5,_),(6,_),(7,_),(8,_),(9,_),(11,_),(19,_),(20,_),(21,_)]) ⟨rfl,rfl,rfl,rfl,rfl,rfl,rfl,rfl,rfl,rfl,trivial⟩ ?_)
   refine zac ?_
   refine zaa ?_
   refine gk_y rfl rfl (zah 4 zuL rfl rfl rfl) ?_
   refine gk_y rfl rfl (zat 0 tf98 rfl rfl (vs:=[_,_,_,_,_]) rfl rfl) ?_
   refine gk_y rfl rfl (zde (fs:=[]) (cap:=[]) ztH rfl rfl (fun w hw=>zqR (p17.1.2.2.getD (i).toNat default) w)) ?_
   refine gk_y rfl rfl (zaf rfl) ?_
   refine gk_y rfl rfl (zaB rfl rfl) ?_
   refine gk_y rfl rfl (zaB rfl rfl) ?_
   refine gk_y rfl rfl (zad rfl) ?_
   refine gk_y rfl rfl (zad rfl) ?_
   refine zag (zae (T':=[(0,_),(5,_),(6,_),(7,_),(8,_),(9,_),(12,_),(13,_),(19,_),(20,_),(21,_)]) ⟨rfl,rfl,rfl,rfl,rfl,rfl,rfl,rfl,rfl,rfl,rfl,trivial⟩ ?_)
   refine zae (T':=[(0,_),(5,_),(6,_),(7,_),(8,_),(9,_),(12,_),(13,.int .i64 ((p17.1.2.2.getD i.toNat default).at_+(p17.1.2.2.getD i.toNat default).width)),(19,_),(20,_),(21,_)]) ⟨rfl,rfl,rfl,rfl,rfl,rfl,rfl,(by show some (Value.int .i64 (W ((p17.1.2.2.getD i.toNat default).at_+(p17.1.2.2.getD i.toNat default).width)))=_; rw [zbr (by omega) (by omega)]),rfl,rfl,rfl,trivial⟩ ?_
   refine zac ?_
   refine zaa ?_
   refine gk_y rfl rfl (zaf rfl) ?_
   refine gk_y rfl rfl (zaf rfl) ?_
   refine zkZ (fs:=[]) (cap:=[_,_]) 1 zvT rfl rfl rfl rfl (fun w B hF=>znE _ _ _ _ _ w B (fun k hk=>(hF.own k hk).2) hF.A (by omega)) fun u33 hq33=>?_
   refine zag (zae (T':=[(0,_),(5,_),(6,_),(7,_),(8,_),(9,_),(13,_),(19,_),(20,_),(21,_)]) ⟨rfl,rfl,rfl,rfl,rfl,rfl,rfl,rfl,rfl,rfl,trivial⟩ ?_)
   refine zao 1 rfl ?_
   refine zii fun ra2 rc2=>?_
   refine zaa ?_
   refine gk_y rfl rfl (zah 0 tf3 rfl rfl rfl) ?_
   refine gk_y rfl rfl (zaf rfl) ?_
   refine gk_y rfl rfl (zws rfl rfl) ?_
   refine zaA 0 tf3 rfl rfl (vs:=[_]) rfl rfl rfl rfl rfl ?_
   refine zag (zae (T':=[(0,_),(5,_),(6,_),(7,_),(8,_),(9,_),(19,_),(20,_),(21,_)]) ⟨rfl,rfl,rfl,rfl,rfl,rfl,rfl,rfl,rfl,trivial⟩ ?_)
   refine zao 2 rfl ?_
   refine zao 2 rfl ?_
   refine zao 2 rfl ?_
   refine zfF (a:=(max a2 ((p17.1.2.2.getD i.toNat default).at_+(p17.1.2.2.getD i.toNat default).width))) (m:=(swM a2 (p17.1.2.2.getD i.toNat default).at_ m)) ?_
   refine zaa ?_
   refine gk_y rfl rfl (zaY rfl rfl (by omega) (by omega)) ?_
   refine gk_y rfl rfl (zaf rfl) ?_
   refine zag (zae (T':=[(0,_),(5,_),(6,_),(7,_),(8,_),(9,_),(19,_),(20,_),(21,_)]) ⟨rfl,rfl,rfl,rfl,rfl,rfl,rfl,rfl,rfl,trivial⟩ ?_)
   refine zaK 1 rfl ?_
   exact za1 (i+1,max a2 ((p17.1.2.2.getD i.toNat default).at_+(p17.1.2.2.getD i.toNat default).width),swM a2 (p17.1.2.2.getD i.toNat default).at_ m) ⟨rfl,rfl,rfl,rfl,rfl,rfl,rfl,rfl,rfl,trivial⟩ rfl ⟨by omega,by omega,by rw [show(i+1).toNat=i.toNat+1 from by omega]; exact zuK hwz hsz g2 (by omega)⟩ (by simp only []; omega)
  ·have hc22:=of_decide_eq_false hc22
   have hend:swM a2 L m=bayL (zcH l) L:=by rw [zwl g2 (by omega),zof p17.2.1]
   refine za8 rfl ?_
   refine zac ?_
   refine zaa ?_
   refine gk_y rfl rfl (zaf rfl) ?_
   refine gk_y rfl rfl (zaf rfl) ?_
   refine zkZ (fs:=[]) (cap:=[_,_]) 0 zvT rfl rfl rfl rfl (fun w B hF=>znE _ _ _ _ _ w B (fun k hk=>(hF.own k hk).2) hF.A (by omega)) fun u40 hq40=>?_
   refine zag (zae (T':=[(6,_),(7,_)]) ⟨rfl,rfl,trivial⟩ ?_)
   refine zii fun ra3 rc3=>?_
   refine zac ?_
   refine zaa ?_
   refine gk_y rfl rfl (zah 1 tf59 rfl rfl rfl) ?_
   refine gk_y rfl rfl (zad rfl) ?_
   refine zag (zae (T':=[(6,_)]) ⟨rfl,trivial⟩ ?_)
   refine zaw ?_
   refine zbd (ra3,rc3) 2 (zaC rfl (zau rfl)) ?_ (by rw [←hend]; rfl)
   rw [←hend]
end Go.Proofs.YtdcfcfhmkfkgmaaGreatDoor
namespace Go.Pln
open Go Go.K Go.RowKit Go.Stn
structure WallF (v:Wll) (top:Int):Prop where
 len:1≤v.length∧v.length≤100000
 num:v.opens.length≤20
 fit:∀ o∈v.opens,zn8 v.length top o
theorem zoC {v:Wll} {top:Int} (h:zd1 top v=true):WallF v top:=by
 have h0:=zqW h
 obtain⟨h1,h2⟩:=zgM h0
 refine⟨h1,h2,fun o ho=>?_⟩
 rw [zgN,Bool.and_eq_true] at h
 obtain⟨i,hi,rfl⟩:=List.getElem_of_mem ho
 have:=zf7 (zdf.1 h.2 i hi)
 simpa [hi] using this
theorem WallF.inW {v:Wll} {top:Int} (h:WallF v top) (p:Opn→Bool):InW (v.opens.filter p) v.length:=fun o ho=>by
 have hf:=h.fit o (List.mem_filter.1 ho).1
 exact⟨hf.a.1,hf.w.1,hf.a.2⟩
theorem zuo {α:Type} (p:α→Bool) (l:List α):offL (fun x=>!p x) l=l.filter p:=by
 unfold offL
 congr 1
 funext x
 rw [Bool.not_not]
def znn (c:Crs) (o:Opn):Bool:=decide (o.frm < c.to)&&decide (c.frm < W (o.frm+o.high))
def zno (h:Int) (o:Opn):Bool:=decide (W (o.frm+o.high)=h)
theorem zhK {v:Wll} {p q:Opn→Bool} (h:∀ o∈v.opens,p o=q o):zcW p v=zcW q v:=by
 unfold zcW
 rw [List.filter_congr h]
theorem zmV {v:Wll} {top:Int} (h:WallF v top) (ht:top≤3000) (c:Crs):zcW (znn c) v=zbg v c:=zhK fun o ho=>by
 have hf:=(h.fit o ho)
 have h1:=hf.h; have h2:=hf.f
 unfold znn zgu
 rw [zbr (by omega) (by omega)]
theorem zjG {v:Wll} {s:Sht} (h:WallF v s.height) (ht:s.height≤3000):zcW (zno s.height) v=zbK v s:=zhK fun o ho=>by
 have hf:=(h.fit o ho)
 have h1:=hf.h; have h2:=hf.f
 unfold zno zj4
 rw [zbr (by omega) (by omega)]
theorem zdK {v:Wll} {top:Int} (h:WallF v top) (p:Opn→Bool):Runs (zcH (v.opens.filter p)) v.length 0 (zcW p v):=zkE _ (by have:=h.len; omega)
theorem zek {v:Wll} {top:Int} (h:WallF v top) (p:Opn→Bool):((zcW p v).length:Int)≤100000:=by
 have h1:=h.len
 have:=zkl (by omega) (zdK h p)
 omega
theorem zmS {v:Wll} {top:Int} (h:WallF v top) {p:Opn→Bool} {i:Int} (h0:0≤i) (h1:i < ((zcW p v).length:Int)):0≤((zcW p v).getD i.toNat default).frm∧((zcW p v).getD i.toNat default).frm < ((zcW p v).getD i.toNat default).to∧((zcW p v).getD i.toNat default).to≤v.length:=by
 obtain⟨a,b,c,_⟩:=zeK (zdK h p) _ (za0 (l:=zcW p v) (i:=i.toNat) (by omega))
 exact⟨a,b,c⟩
def zb6 (S:List ShC) (V:List WlC) (n:ByteArray):Int:=if zc4 S V=true then(if 0≤zaM V n then 0 else 6) else 2
def zhq (V:List WlC) (n:ByteArray):WlC:=if 0≤zaM V n then V.getD (zaM V n).toNat default else default
def zaN (S:List ShC) (V:List WlC) (n:ByteArray):WlC:=if zb6 S V n=0 then zhq V n else default
def zar (S:List ShC) (V:List WlC) (n:ByteArray):ShC:=if zb6 S V n=0 then zav S (zhq V n).s.sheet else default
theorem zm8 {S:List ShC} {V:List WlC} {n:ByteArray} (h:¬ zc4 S V=true):zb6 S V n=2:=if_neg h
theorem zkV {S:List ShC} {V:List WlC} {n:ByteArray} (h:zc4 S V=true) (h2:¬ 0≤zaM V n):zb6 S V n=6:=by unfold zb6; rw [if_pos h,if_neg h2]
theorem zpp {S:List ShC} {V:List WlC} {n:ByteArray} (h:zc4 S V=true) (h2:0≤zaM V n):zb6 S V n=0:=by unfold zb6; rw [if_pos h,if_pos h2]
theorem zjR {S:List ShC} {V:List WlC} {n:ByteArray} (h:zb6 S V n=0):zc4 S V=true∧0≤zaM V n:=by
 unfold zb6 at h
 by_cases h1:zc4 S V=true
 ·rw [if_pos h1] at h
  refine⟨h1,?_⟩
  by_cases h2:0≤zaM V n
  ·exact h2
  ·rw [if_neg h2] at h; exact absurd h (by decide)
 ·rw [if_neg h1] at h; exact absurd h (by decide)
theorem zid {V:List WlC} {n:ByteArray} (h:0≤zaM V n):zhq V n∈V:=by
 unfold zhq
 rw [if_pos h]
 exact za0 (by have:=zky h; omega)
theorem zhF {S:List ShC} {V:List WlC} {n:ByteArray} (h:zb6 S V n=0):zaN S V n=zhq V n:=if_pos h
theorem zhE {S:List ShC} {V:List WlC} {n:ByteArray} (h:zb6 S V n=0):zar S V n=zav S (zhq V n).s.sheet:=if_pos h
theorem zfu {S:List ShC} {V:List WlC} {n:ByteArray} (h:zb6 S V n=0):zaN S V n∈V∧zar S V n∈S∧za4 (zar S V n).s=true∧WallF (zaN S V n).s (zar S V n).s.height:=by
 obtain⟨h1,h2⟩:=zjR h
 rw [zhF h,zhE h]
 obtain⟨h3,h4⟩:=zf8 h1 _ (zid h2)
 exact⟨zid h2,zgp h3,zls h1 _ (zgp h3),zoC h4⟩
end Go.Pln
namespace Go.Pln
open Go Go.K Go.RowKit Go.Stn
def zhJ (S:List ShC) (V:List WlC) (n:ByteArray) (k:Int):Int:=if zb6 S V n=0 then(if k < 0∨((zaj (zar S V n).s).length:Int)≤k then 3 else 0) else zb6 S V n
def ziX (S:List ShC) (V:List WlC) (n:ByteArray) (k:Int):List Crs:=if zhJ S V n k=0 then zbg (zaN S V n).s ((zaj (zar S V n).s).getD k.toNat default) else []
theorem zra {S:List ShC} {V:List WlC} {n:ByteArray} {k:Int} (h:¬ zb6 S V n=0):zhJ S V n k=zb6 S V n∧ziX S V n k=[]:=by
 have h1:zhJ S V n k=zb6 S V n:=if_neg h
 exact⟨h1,by unfold ziX; rw [h1,if_neg h]⟩
theorem zoX {S:List ShC} {V:List WlC} {n:ByteArray} {k:Int} (h:zb6 S V n=0) (hk:k < 0∨((zaj (zar S V n).s).length:Int)≤k):zhJ S V n k=3∧ziX S V n k=[]:=by
 have h1:zhJ S V n k=3:=by unfold zhJ; rw [if_pos h,if_pos hk]
 exact⟨h1,by unfold ziX; rw [h1]; rfl⟩
theorem zmT {S:List ShC} {V:List WlC} {n:ByteArray} {k:Int} (h:zb6 S V n=0) (hk:¬ (k < 0∨((zaj (zar S V n).s).length:Int)≤k)):zhJ S V n k=0∧ziX S V n k=zbg (zaN S V n).s ((zaj (zar S V n).s).getD k.toNat default):=by
 have h1:zhJ S V n k=0:=by unfold zhJ; rw [if_pos h,if_neg hk]
 exact⟨h1,by unfold ziX; rw [h1]; rfl⟩
def ziJ (S:List ShC) (V:List WlC) (n:ByteArray):Int:=if zb6 S V n=0 then zi2 (zar S V n).s else 0
def zei (S:List ShC) (V:List WlC) (n:ByteArray):List Int:=if zb6 S V n=0 then thrL (zaN S V n).s (zar S V n).s else []
def zcF (S:List ShC) (V:List WlC) (n:ByteArray):List Cpe:=if zb6 S V n=0 then zbi (zaN S V n).s (zar S V n).s else []
def zcx (S:List ShC) (V:List WlC) (n:ByteArray):Qnt:=if zb6 S V n=0 then zdz (zaN S V n).s (zar S V n).s else⟨0,0,0,0,0,0,0⟩
end Go.Pln
namespace Go.Pln
open Go Go.K Go.RowKit Go.Stn
theorem zlB {s:Sht} (h:za4 s=true):badP s=false:=by
 unfold za4 at h
 rw [Bool.and_eq_true,Bool.not_eq_true'] at h
 exact h.1
theorem zjQ {s:Sht} (h:za4 s=true) (h1:¬ s.every=0):1≤s.every∧s.every≤100000:=by
 have hb:=zlB h
 unfold badP at hb
 simp only [Bool.or_eq_false_iff,Bool.not_eq_false'] at hb
 have h2:=hb.1.1.1.2
 rw [ziP] at h2
 unfold zgJ at h2
 simp only [Bool.or_eq_true,Bool.and_eq_true,decide_eq_true_eq,zbp] at h2
 omega
theorem zlX {s:Sht} (h:za4 s=true) (h1:¬ s.cope=0):(1≤s.thick∧s.thick≤1000)∧(1≤s.tall∧s.tall≤1000)∧(1≤zdD s∧zdD s≤1000):=by
 have hb:=zlB h
 unfold badP at hb
 simp only [Bool.or_eq_false_iff,Bool.not_eq_false'] at hb
 have h2:=hb.2
 unfold zgh at h2
 rw [if_neg h1] at h2
 unfold zdD
 split at h2
 ·rename_i h3
  simp only [zcC,zdI,Bool.and_true,Bool.and_eq_true,zbp] at h2
  rw [if_neg (by omega)]
  omega
 ·split at h2
  ·rename_i h3
   simp only [zcC,zdI,Bool.and_true,Bool.and_eq_true,zbp] at h2
   rw [if_pos h3]
   omega
  ·cases h2
end Go.Pln
namespace Go.K
open Go
def Two (R S:Res):Res where
 A B w:=∃ C D,(∀ k,C k→B k)∧(∀ k,D k→B k)∧R.A C w∧S.A D w
 loc B w w' h hA:=by
  obtain⟨C,D,hC,hD,a,b⟩:=hA
  exact⟨C,D,hC,hD,R.loc C w w' (fun k hk=>h k (hC k hk)) a,S.loc D w w' (fun k hk=>h k (hD k hk)) b⟩
theorem ztZ {w:World} {R S:Res} (h:Has w (Two R S)):Has w R:=by
 obtain⟨B,hB,C,D,hC,hD,a,b⟩:=h
 exact⟨C,fun k hk=>hB k (hC k hk),a⟩
theorem zt0 {w:World} {R S:Res} (h:Has w (Two R S)):Has w S:=by
 obtain⟨B,hB,C,D,hC,hD,a,b⟩:=h
 exact⟨D,fun k hk=>hB k (hD k hk),b⟩
end Go.K
namespace Go.Proofs.YtdcfcfhmkfkgmaaGreatDoor
open Go.K Go.Stn Go.Pln Go.RowKit
theorem zyi  (w:World):(Instr.buildSlice 35 0 #[]).run Tryz.prog w=.ok (.slice (some ⟨w.heap.size,0,none⟩) 0 0) (w.alloc (.cells (([]:List (Int)).flatMap Go.Stn.encI).toArray 3)):=by kernel_rfl
theorem zvf  (w:World):(Instr.buildSlice 92 0 #[]).run Tryz.prog w=.ok (.slice (some ⟨w.heap.size,0,none⟩) 0 0) (w.alloc (.cells (([]:List (Opn)).flatMap zba).toArray 98)):=by kernel_rfl
theorem zrM {α:Type} {k:Nat} {enc:α→List Value} {w:World} {a:Option Addr} {l:List α} (h:Has w (zaW a k enc l)) (hn:a.isNone=true):l=[]:=by
 obtain⟨B,_,hA⟩:=h
 rcases hA with h | ⟨b,off,ha,_⟩
 ·exact h
 ·rw [ha] at hn; cases hn
set_option maxRecDepth 100000 in
set_option maxHeartbeats 1000000 in
theorem zrd (a:Option Addr) (cap:Nat) (l:List Opn) (w:World) (hl:Has w (zaW a 5 zba l)) (hs:zaP l.length) :
  Calls Tryz.prog 68 #[.slice a l.length cap] w (zcU (fun z:Option Addr×Nat=>.slice z.1 l.length z.2) (fun z=>Row z.1 5 z.2 98 zba l) w):=by
 refine zan (vs:=[_]) Tryz.func68 rfl rfl (Nat.le_of_ble_eq_true rfl) ?_
 refine zac ?_
 refine zaa ?_
 refine gk_y rfl rfl (zad rfl) ?_
 refine zag (zae (T':=[(0,_),(2,_)]) ⟨rfl,rfl,trivial⟩ ?_)
 refine zac ?_
 refine zac ?_
 refine zaa ?_
 refine gk_y rfl rfl (zaf rfl) ?_
 refine gk_y rfl rfl (zuU (Tryz.underlying92) rfl rfl) ?_
 refine zag (zae (T':=[(0,_),(2,_),(4,_)]) ⟨rfl,rfl,rfl,trivial⟩ ?_)
 refine zap rfl (fun hc4=>?_) (fun hc4=>?_)
 ·have hL:l=[]:=zrM hl hc4
  subst hL
  refine zbB 98 zba 5 ?_
  refine zac ?_
  refine zaa ?_
  refine gk_y rfl rfl (zad rfl) ?_
  refine zag (zae (T':=[(0,_),(2,_)]) ⟨rfl,rfl,trivial⟩ ?_)
  refine zaw ?_
  refine zbd (none,0) 0 (zaC rfl (zau rfl)) ?_ rfl
  rfl
 ·
  refine zaq ?_
  refine zac ?_
  refine zaa ?_
  refine zaG rfl rfl (zaD rfl (zvf) encOpn_ok rfl) fun b5=>?_
  refine gk_y rfl rfl (zaf rfl) ?_
  refine zb4 (m:=l) 0 af92 encOpn_ok rfl rfl rfl rfl (fun _ hw=>(Rd.has (Has.rd hl) hw)) (by unfold zaP at hs; simp only [List.length_nil]; omega) (by unfold zaP at hs; simp only [List.length_nil,maxLen]; omega) fun a7 c7=>?_
  refine gk_y rfl rfl (zad rfl) ?_
  refine zag (zae (T':=[(2,_)]) ⟨rfl,trivial⟩ ?_)
  refine zaw ?_
  refine zbd (a7,c7) 0 (zaC rfl (zau rfl)) ?_ rfl
  rfl
set_option maxRecDepth 100000 in
set_option maxHeartbeats 1000000 in
theorem zya (a:Option Addr) (cap:Nat) (l:List Int) (w:World) (hl:Has w (Ints a l)) (hs:zaP l.length) :
  Calls Tryz.prog 69 #[.slice a l.length cap] w (zcU (fun z:Option Addr×Nat=>.slice z.1 l.length z.2) (fun z=>Row z.1 1 z.2 3 Go.Stn.encI l) w):=by
 refine zan (vs:=[_]) Tryz.func69 rfl rfl (Nat.le_of_ble_eq_true rfl) ?_
 refine zac ?_
 refine zaa ?_
 refine gk_y rfl rfl (zad rfl) ?_
 refine zag (zae (T':=[(0,_),(2,_)]) ⟨rfl,rfl,trivial⟩ ?_)
 refine zac ?_
 refine zac ?_
 refine zaa ?_
 refine gk_y rfl rfl (zaf rfl) ?_
 refine gk_y rfl rfl (zuU (Tryz.underlying35) rfl rfl) ?_
 refine zag (zae (T':=[(0,_),(2,_),(4,_)]) ⟨rfl,rfl,rfl,trivial⟩ ?_)
 refine zap rfl (fun hc4=>?_) (fun hc4=>?_)
 ·have hL:l=[]:=zrM hl hc4
  subst hL
  refine zbB 3 Go.Stn.encI 1 ?_
  refine zac ?_
  refine zaa ?_
  refine gk_y rfl rfl (zad rfl) ?_
  refine zag (zae (T':=[(0,_),(2,_)]) ⟨rfl,rfl,trivial⟩ ?_)
  refine zaw ?_
  refine zbd (none,0) 0 (zaC rfl (zau rfl)) ?_ rfl
  rfl
 ·
  refine zaq ?_
  refine zac ?_
  refine zaa ?_
  refine zaG rfl rfl (zaD rfl (zyi) Go.Stn.encI_ok rfl) fun b5=>?_
  refine gk_y rfl rfl (zaf rfl) ?_
  refine zb4 (m:=l) 0 af35 Go.Stn.encI_ok rfl rfl rfl rfl (fun _ hw=>(Rd.has (Has.rd hl) hw)) (by unfold zaP at hs; simp only [List.length_nil]; omega) (by unfold zaP at hs; simp only [List.length_nil,maxLen]; omega) fun a7 c7=>?_
  refine gk_y rfl rfl (zad rfl) ?_
  refine zag (zae (T':=[(2,_)]) ⟨rfl,trivial⟩ ?_)
  refine zaw ?_
  refine zbd (a7,c7) 0 (zaC rfl (zau rfl)) ?_ rfl
  rfl
set_option maxRecDepth 100000 in
set_option maxHeartbeats 2000000 in
theorem zkP (a:Option Addr) (cap:Nat) (l:List Opn) (f:Opn→Bool) (gg:FuncId) (gcap:List Value) (hen:En Tryz.prog gg) (R:Res) (w:World) (B:Nat→Prop) (hB:∀ k,B k→k < w.heap.size) (hA:(Row a 5 cap 98 zba l).A B w) (hs:zaP l.length) (hR:Rd (fun k=>k < w.heap.size∧¬ B k) w R) (hg:∀ (o:Opn) w',Has w' R→Calls Tryz.prog gg ([Value.agg (zba o).toArray]++gcap).toArray w' (Pure (.bool (f o)) w')) :
  Calls Tryz.prog 117 #[.slice a l.length cap,.func (.func gg) #[] gcap.toArray] w (zho (fun _:Unit=>.slice a (offL f l).length cap) (fun _=>Row a 5 cap 98 zba (offZ f l)) (fun _=>True) B w):=by
 have hsub:∀ n,subA a 5 0 n=a:=fun n=>zsa hA
 have hcap:l.length≤cap:=Row.bounds hA
 refine zby hB hA (vs:=[_,_]) Tryz.func117 rfl rfl (Nat.le_of_ble_eq_true rfl) ?_
 refine zac ?_
 refine zaa ?_
 refine gk_y rfl rfl (zad rfl) ?_
 refine zag (zae (T':=[(0,_),(1,_),(4,_)]) ⟨rfl,rfl,rfl,trivial⟩ ?_)
 refine zac ?_
 refine zaa ?_
 refine gk_y rfl rfl (zaf rfl) ?_
 refine gk_y rfl rfl (zaf rfl) ?_
 refine gk_y rfl rfl (zaJ zvR rfl (fun w hw=>zhj _ _ l f _ [] _ w (zam encOpn_ok (hw.has (p:=0) rfl)) (by assumption) (fun w'=>Has w' R) (fun w' hx=>Has.ext (Rd.has hR hw) hx) hen (fun z w' hm=>hg z w' hm))) ?_
 refine gk_y rfl rfl (zad rfl) ?_
 refine zag (zae (T':=[(0,_),(1,_),(4,_),(5,_)]) ⟨rfl,rfl,rfl,rfl,trivial⟩ ?_)
 refine zac ?_
 refine zac ?_
 refine zaa ?_
 refine gk_y rfl rfl (zaf rfl) ?_
 refine gk_y rfl rfl (zbL rfl rfl) ?_
 refine zag (zae (T':=[(0,_),(1,_),(4,_),(5,_),(12,_)]) ⟨rfl,rfl,rfl,rfl,rfl,trivial⟩ ?_)
 refine zap rfl (fun hc12=>?_) (fun hc12=>?_)
 ·have hc12:=of_decide_eq_true hc12
  have hL:=zrQ hc12
  refine zac ?_
  refine zaa ?_
  refine gk_y rfl rfl (zaf rfl) ?_
  refine gk_y rfl rfl (zad rfl) ?_
  refine zag (zae (T':=[(0,_),(1,_),(4,_),(5,_)]) ⟨rfl,rfl,rfl,rfl,trivial⟩ ?_)
  refine zae (T':=[(0,_),(1,_),(4,.slice a (offL f l).length cap),(5,_)]) ⟨rfl,rfl,(by rw [hL]; rfl),rfl,trivial⟩ ?_
  refine za2 (R':=Row a 5 cap 98 zba (offZ f l)) 0 rfl (fun B w hA=>by unfold offZ; rw [hL,Nat.sub_self,List.replicate_zero,List.append_nil]; exact hA) ?_
  refine zaw ?_
  refine zd9 () 0 (zaC rfl (zau rfl)) rfl rfl trivial
 ·have hc12:=of_decide_eq_false hc12
  have hD:=zqh hc12
  have hi0:=hD.i0
  have hij:=hD.ij
  have hjl:=hD.jl
  refine zaq ?_
  refine zac ?_
  refine zac ?_
  refine zaa ?_
  refine gk_y rfl rfl (zaf rfl) ?_
  refine gk_y rfl rfl (zaY rfl rfl (by omega) (by omega)) ?_
  refine gk_y rfl rfl (zad rfl) ?_
  refine zag (zae (T':=[(0,_),(1,_),(4,_),(5,_),(6,_)]) ⟨rfl,rfl,rfl,rfl,rfl,trivial⟩ ?_)
  refine zas ?_
  refine zbf (X:=Int×Int×List Opn) (fun⟨i,j,m⟩=>[(0,.slice a l.length cap),(1,.func (.func gg) #[] gcap.toArray),(4,.slice none 0 0),(5,.int .i64 i),(6,.int .i64 j)]) (fun⟨i,j,m⟩=>[Row a 5 cap 98 zba m]) (fun⟨i,j,m⟩=>OffI f l m i j) (fun⟨i,j,m⟩=>(l.length - j).toNat) (zbJ f l,zbJ f l+1,l) ⟨rfl,rfl,rfl,rfl,rfl,trivial⟩ rfl ?_ ?_
  ·exact hD
  ·rintro ⟨i,j,m⟩ hI
   have hD:OffI f l m i j:=hI
   have hi0:=hD.i0
   have hij:=hD.ij
   have hjl:=hD.jl
   have hml:=hD.len
   refine zac ?_
   refine zac ?_
   refine zaa ?_
   refine gk_y rfl rfl (zaf rfl) ?_
   refine gk_y rfl rfl (zaf rfl) ?_
   refine gk_y rfl rfl (zaV (Tryz.underlying92) rfl) ?_
   refine gk_y rfl rfl (zbw rfl rfl) ?_
   refine zag (zae (T':=[(0,_),(1,_),(4,_),(5,_),(6,_),(19,_)]) ⟨rfl,rfl,rfl,rfl,rfl,rfl,trivial⟩ ?_)
   refine zap rfl (fun hc19=>?_) (fun hc19=>?_)
   ·have hc19:=of_decide_eq_true hc19
    refine zaq ?_
    refine zac ?_
    refine zas ?_
    refine zac ?_
    refine zaa ?_
    refine gk_y rfl rfl (zaf rfl) ?_
    refine gk_y rfl rfl (zaf rfl) ?_
    refine gk_y rfl rfl (zn6 se92 rfl rfl (fun _ hw=>(zam encOpn_ok (hw.has (p:=0) rfl))) hD.len (by omega) (by omega)) ?_
    refine gk_y rfl rfl (zbv (vs:=[_,_,_,_,_]) tf98 rfl (fun _ hw=>(zam encOpn_ok (hw.has (p:=0) rfl))) (by omega) (by omega) rfl) ?_
    refine zaG rfl rfl (zaL tf98 (zs:=[_,_,_,_,_]) rfl) fun b7=>?_
    refine zaA 0 tf98 rfl rfl (vs:=[_,_,_,_,_]) rfl rfl rfl rfl rfl ?_
    refine zag (zae (T':=[(0,_),(1,_),(4,_),(5,_),(6,_),(7,_)]) ⟨rfl,rfl,rfl,rfl,rfl,rfl,trivial⟩ ?_)
    refine zac ?_
    refine zaa ?_
    refine gk_y rfl rfl (zaf rfl) ?_
    refine gk_y rfl rfl (zat 0 tf98 rfl rfl (vs:=[_,_,_,_,_]) rfl rfl) ?_
    refine gk_y rfl rfl (zde (fs:=[]) (cap:=gcap) hen rfl rfl (fun w hw=>hg _ w (Rd.has hR hw))) ?_
    refine gk_y rfl rfl (zbR rfl) ?_
    refine zag (zae (T':=[(0,_),(1,_),(4,_),(5,_),(6,_),(7,_),(29,_)]) ⟨rfl,rfl,rfl,rfl,rfl,rfl,rfl,trivial⟩ ?_)
    refine zap rfl (fun hc29=>?_) (fun hc29=>?_)
    ·have hb29:f (m.getD j.toNat default)=false:=by rw [Bool.not_eq_true'] at hc29; exact hc29
     refine zac ?_
     refine zaa ?_
     refine gk_y rfl rfl (zaf rfl) ?_
     refine gk_y rfl rfl (zaf rfl) ?_
     refine gk_y rfl rfl (zat 0 tf98 rfl rfl (vs:=[_,_,_,_,_]) rfl rfl) ?_
     refine gk_y rfl rfl (zn6 se92 rfl rfl (fun _ hw=>(zam encOpn_ok (hw.has (p:=1) rfl))) hD.len (by omega) (by omega)) ?_
     refine zpR (x':=(m.getD (j).toNat default)) 1 encOpn_ok tf98 rfl rfl (vs:=[_,_,_,_,_]) rfl rfl rfl (by omega) (by omega) ?_
     refine zag (zae (T':=[(0,_),(1,_),(4,_),(5,_),(6,_)]) ⟨rfl,rfl,rfl,rfl,rfl,trivial⟩ ?_)
     refine zaa ?_
     refine gk_y rfl rfl (zaf rfl) ?_
     refine gk_y rfl rfl (zaY rfl rfl (by omega) (by omega)) ?_
     refine gk_y rfl rfl (zad rfl) ?_
     refine zag (zae (T':=[(0,_),(1,_),(4,_),(5,_),(6,_)]) ⟨rfl,rfl,rfl,rfl,rfl,trivial⟩ ?_)
     refine zaa ?_
     refine gk_y rfl rfl (zaf rfl) ?_
     refine gk_y rfl rfl (zaY rfl rfl (by omega) (by omega)) ?_
     refine gk_y rfl rfl (zad rfl) ?_
     refine zag (zae (T':=[(0,_),(1,_),(4,_),(5,_),(6,_)]) ⟨rfl,rfl,rfl,rfl,rfl,trivial⟩ ?_)
     refine zaK 0 rfl ?_
     exact za1 (_,j+1,_) ⟨rfl,rfl,rfl,rfl,rfl,trivial⟩ rfl (by first | exact hD.keep hc19 hb29 | exact hD.skip hc19 hb29) (by simp only []; omega)
    ·have hb29:f (m.getD j.toNat default)=true:=by rw [Bool.not_eq_false'] at hc29; exact hc29
     refine zaq ?_
     refine zaa ?_
     refine gk_y rfl rfl (zaf rfl) ?_
     refine gk_y rfl rfl (zaY rfl rfl (by omega) (by omega)) ?_
     refine gk_y rfl rfl (zad rfl) ?_
     refine zag (zae (T':=[(0,_),(1,_),(4,_),(5,_),(6,_)]) ⟨rfl,rfl,rfl,rfl,rfl,trivial⟩ ?_)
     refine zaK 0 rfl ?_
     exact za1 (_,j+1,_) ⟨rfl,rfl,rfl,rfl,rfl,trivial⟩ rfl (by first | exact hD.keep hc19 hb29 | exact hD.skip hc19 hb29) (by simp only []; omega)
   ·have hc19:=of_decide_eq_false hc19
    obtain⟨d1,d2,d3⟩:=hD.done hc19
    refine za8 rfl ?_
    refine zac ?_
    refine zaa ?_
    refine gk_y rfl rfl (zaf rfl) ?_
    refine gk_y rfl rfl (zaf rfl) ?_
    refine gk_y rfl rfl (zg9 se92 rfl rfl (by omega) (by omega)) ?_
    refine zrt m (default:Opn) 0 encOpn_ok (Tryz.underlying92) tf98 rfl rfl (by rw [List.length_drop,List.length_drop,hD.len]) rfl (by have:=hD.i0; have:=hD.ij; have:=hD.jl; have:=hD.len; omega) rfl ?_
    refine zag (zae (T':=[(0,_),(4,_),(5,_)]) ⟨rfl,rfl,rfl,trivial⟩ ?_)
    refine za2 (R':=Row a 5 cap 98 zba (offZ f l)) 0 rfl (fun B w hA=>by unfold offZ; rw [←d2,←d1,←d3]; exact hA) ?_
    refine zac ?_
    refine zaa ?_
    refine gk_y rfl rfl (zaf rfl) ?_
    refine gk_y rfl rfl (zaf rfl) ?_
    refine gk_y rfl rfl (zg8 se92 rfl rfl (by omega) (by omega) hcap) ?_
    refine gk_y rfl rfl (zad rfl) ?_
    refine zag (zae (T':=[(4,_)]) ⟨rfl,trivial⟩ ?_)
    refine zae (T':=[(4,.slice a (offL f l).length cap)]) ⟨(by rw [show(offL f l).length=(l.take i.toNat).length from by have:=zun (p:=f) l; rw [List.length_take]; omega,hsub cap]; rfl),trivial⟩ ?_
    refine zaw ?_
    refine zd9 () 0 (zaC rfl (zau rfl)) rfl rfl trivial
end Go.Proofs.YtdcfcfhmkfkgmaaGreatDoor
namespace Go.Proofs.YtdcfcfhmkfkgmaaGreatDoor
open Go.K Go.Stn Go.Pln Go.RowKit
theorem zxD:TF Tryz.prog 147 false 1 (.nilFunc):=⟨by kernel_rfl,by kernel_rfl⟩
theorem zne:FO Tryz.prog 49 0 0:=⟨by kernel_rfl⟩
theorem en68:En Tryz.prog 68:=za7 Tryz.func68 (by kernel_rfl) (by kernel_rfl)
theorem zw6:En Tryz.prog 117:=za7 Tryz.func117 (by kernel_rfl) (by kernel_rfl)
theorem zw7:En Tryz.prog 118:=za7 Tryz.func118 (by kernel_rfl) (by kernel_rfl)
theorem zw8:En Tryz.prog 119:=za7 Tryz.func119 (by kernel_rfl) (by kernel_rfl)
set_option maxRecDepth 100000 in
set_option maxHeartbeats 1000000 in
theorem zoD (o:Opn) (b:Nat) (f:Opn→Bool) (gg:FuncId) (gcap:List Value) (hen:En Tryz.prog gg) (R:Res) (w:World) (hb:Has w (Box b [.func (.func gg) #[] gcap.toArray] 147)) (hR:Has w R) (hg:∀ (o:Opn) w',Has w' R→Calls Tryz.prog gg ([Value.agg (zba o).toArray]++gcap).toArray w' (Pure (.bool (f o)) w')) :
  Calls Tryz.prog 118 #[.agg #[.int .u8 o.kind,.int .i64 o.at_,.int .i64 o.width,.int .i64 o.frm,.int .i64 o.high],.pointer (some ⟨b,0,none⟩)] w (Pure (.bool (!f o)) w):=by
 refine zan (vs:=[_,_]) Tryz.func118 rfl rfl (Nat.le_of_ble_eq_true rfl) ?_
 refine zac ?_
 refine zaa ?_
 refine zaG rfl rfl (za3 (vs:=[_,_,_,_,_]) rfl rfl) fun b2=>?_
 refine gk_y rfl rfl (zad rfl) ?_
 refine zag (zae (T':=[(1,_),(2,_),(3,_)]) ⟨rfl,rfl,rfl,trivial⟩ ?_)
 refine zac ?_
 refine zaa ?_
 refine gk_y rfl rfl (zbW zxD rfl (fun _ hw=>zaQ (Rd.has (Has.rd hb) hw) rfl)) ?_
 refine gk_y rfl rfl (zat 0 tf98 rfl rfl (vs:=[_,_,_,_,_]) rfl rfl) ?_
 refine gk_y rfl rfl (zde (fs:=[]) (cap:=gcap) hen rfl rfl (fun w hw=>hg _ w (Rd.has (Has.rd hR) hw))) ?_
 refine gk_y rfl rfl (zbR rfl) ?_
 refine gk_y rfl rfl (zad rfl) ?_
 refine zag (zae (T':=[(3,_)]) ⟨rfl,trivial⟩ ?_)
 refine zaw ?_
 refine zay (zaC rfl (zau rfl)) ?_
 rfl
set_option maxRecDepth 100000 in
set_option maxHeartbeats 1000000 in
theorem ztj (o:Opn) (c:Crs) (b:Nat) (w:World) (hb:Has w (Box b [.int .i64 c.frm,.int .i64 c.to] 49)) :
  Calls Tryz.prog 96 #[.agg #[.int .u8 o.kind,.int .i64 o.at_,.int .i64 o.width,.int .i64 o.frm,.int .i64 o.high],.pointer (some ⟨b,0,none⟩)] w (Pure (.bool (znn c o)) w):=by
 refine zan (vs:=[_,_]) Tryz.func96 rfl rfl (Nat.le_of_ble_eq_true rfl) ?_
 refine zac ?_
 refine zaa ?_
 refine zaG rfl rfl (za3 (vs:=[_,_,_,_,_]) rfl rfl) fun b2=>?_
 refine gk_y rfl rfl (zad rfl) ?_
 refine zag (zae (T':=[(1,_),(2,_),(3,_)]) ⟨rfl,rfl,rfl,trivial⟩ ?_)
 refine zac ?_
 refine zbb 16 (fun _=>mixed) (by kernel_rfl) ?_
 refine ph_y (zab zfe rfl) ?_
 refine ph_y (zah 0 tf3 rfl rfl rfl) ?_
 refine ph_y (zab zpx rfl) ?_
 refine ph_y (zbW tf3 rfl (fun _ hw=>zaQ (Rd.has (Has.rd hb) hw) rfl)) ?_
 refine ph_y (zbw rfl rfl) ?_
 refine ph_y (zaf rfl) ?_
 refine zaH rfl rfl (fun hgd=>by(try rw [hgd]); exact(zab zfe rfl)) ?_
 refine zaH rfl rfl (fun hgd=>by(try rw [hgd]); exact(zah 0 tf3 rfl rfl rfl)) ?_
 refine zaH rfl rfl (fun hgd=>by(try rw [hgd]); exact(zab zhg rfl)) ?_
 refine zaH rfl rfl (fun hgd=>by(try rw [hgd]); exact(zah 0 tf3 rfl rfl rfl)) ?_
 refine zaH rfl rfl (fun hgd=>by(try rw [hgd]); exact(zfw rfl rfl)) ?_
 refine zaH rfl rfl (fun hgd=>by(try rw [hgd]); exact(zab zne rfl)) ?_
 refine zaH rfl rfl (fun hgd=>by(try rw [hgd]); exact(zbW tf3 rfl (fun _ hw=>zaQ (Rd.has (Has.rd hb) hw) rfl))) ?_
 refine zaH rfl rfl (fun hgd=>by(try rw [hgd]); exact(zc6 rfl rfl)) ?_
 refine ph_y (zaX rfl rfl rfl) ?_
 refine ph_y (zad rfl) ?_
 refine zag (zae (T':=[(3,_)]) ⟨rfl,trivial⟩ ?_)
 refine zaw ?_
 refine zay (zaC rfl (zau rfl)) ?_
 rfl
set_option maxRecDepth 100000 in
set_option maxHeartbeats 1000000 in
theorem zrj (o:Opn) (a:Option Addr) (cap:Nat) (s:Sht) (b:Nat) (w:World) (hb:Has w (Box b [.string s.name,.int .i64 s.base,.int .i64 s.batter,.int .i64 s.height,.int .i64 s.skin,.slice a s.heights.length cap,.int .i64 s.least,.int .i64 s.lap,.int .i64 s.run,.int .i64 s.every,.int .i64 s.at_,.int .i64 s.footing,.int .i64 s.spread,.int .u8 s.cope,.int .i64 s.tall,.int .i64 s.short,.int .i64 s.thick,.int .i64 s.low,.int .i64 s.high,.int .i64 s.rood] 41)) :
  Calls Tryz.prog 101 #[.agg #[.int .u8 o.kind,.int .i64 o.at_,.int .i64 o.width,.int .i64 o.frm,.int .i64 o.high],.pointer (some ⟨b,0,none⟩)] w (Pure (.bool (zno s.height o)) w):=by
 refine zan (vs:=[_,_]) Tryz.func101 rfl rfl (Nat.le_of_ble_eq_true rfl) ?_
 refine zac ?_
 refine zaa ?_
 refine zaG rfl rfl (za3 (vs:=[_,_,_,_,_]) rfl rfl) fun b2=>?_
 refine gk_y rfl rfl (zad rfl) ?_
 refine zag (zae (T':=[(1,_),(2,_),(3,_)]) ⟨rfl,rfl,rfl,trivial⟩ ?_)
 refine zac ?_
 refine zaa ?_
 refine gk_y rfl rfl (zab zfe rfl) ?_
 refine gk_y rfl rfl (zah 0 tf3 rfl rfl rfl) ?_
 refine gk_y rfl rfl (zab zhg rfl) ?_
 refine gk_y rfl rfl (zah 0 tf3 rfl rfl rfl) ?_
 refine gk_y rfl rfl (zfw rfl rfl) ?_
 refine gk_y rfl rfl (zab zep rfl) ?_
 refine gk_y rfl rfl (zbW tf3 rfl (fun _ hw=>zaQ (Rd.has (Has.rd hb) hw) rfl)) ?_
 refine gk_y rfl rfl (zbL rfl rfl) ?_
 refine gk_y rfl rfl (zad rfl) ?_
 refine zag (zae (T':=[(3,_)]) ⟨rfl,trivial⟩ ?_)
 refine zaw ?_
 refine zay (zaC rfl (zau rfl)) ?_
 rfl
theorem zwh {U:Nat→Prop} {w:World} {R S:Res} (h1:Rd U w R) (h2:Rd U w S):Rd U w (Two R S):=
 let ⟨C,hC,a⟩:=h1; let ⟨D,hD,b⟩:=h2; ⟨fun k=>C k∨D k,fun k h=>h.elim (hC k) (hD k),C,D,fun _ h=>.inl h,fun _ h=>.inr h,a,b⟩
theorem zum {w:World} {a:Option Addr} {l m:List Opn} (h:m=l) (hm:Has w (zaW a 5 zba m)):Has w (zaW a 5 zba l):=h ▸ hm
set_option maxRecDepth 100000 in
set_option maxHeartbeats 4000000 in
theorem zlM (b:Option Addr) (bcap:Nat) (v:Wll) (top:Int) (f:Opn→Bool) (gg:FuncId) (gcap:List Value) (hen:En Tryz.prog gg) (R:Res) (w:World) (hv:Has w (zaW b 5 zba v.opens)) (hF:WallF v top) (hR:Has w R) (hg:∀ (o:Opn) w',Has w' R→Calls Tryz.prog gg ([Value.agg (zba o).toArray]++gcap).toArray w' (Pure (.bool (f o)) w')) :
  Calls Tryz.prog 95 #[.agg #[.string v.name,.string v.sheet,.int .i64 v.length,.slice b v.opens.length bcap],.func (.func gg) #[] gcap.toArray] w (zcU (fun z:Option Addr×Nat=>.slice z.1 (zcW f v).length z.2) (fun z=>Row z.1 2 z.2 69 zbq (zcW f v)) w):=by
 have hnum:=hF.num
 have hlen:=hF.len
 have hfl:=List.length_filter_le f v.opens
 have hof:=zuo f v.opens
 refine zan (vs:=[_,_]) Tryz.func95 rfl rfl (Nat.le_of_ble_eq_true rfl) ?_
 refine zac ?_
 refine zaa ?_
 refine zaG rfl rfl (za3 (vs:=[_,_,_,_]) rfl rfl) fun b2=>?_
 refine zaG rfl rfl (za3 (vs:=[_]) rfl rfl) fun b3=>?_
 refine gk_y rfl rfl (zad rfl) ?_
 refine zag (zae (T':=[(2,_),(3,_),(4,_)]) ⟨rfl,rfl,rfl,trivial⟩ ?_)
 refine zac ?_
 refine zaa ?_
 refine gk_y rfl rfl (zab zhe rfl) ?_
 refine gk_y rfl rfl (zah 1 tf92 rfl rfl rfl) ?_
 refine zaG rfl rfl (zbm en68 rfl (fun w hw=>zrd _ _ v.opens w (Rd.has (Has.rd hv) hw) (by unfold zaP; omega))) fun p8=>?_
 refine gk_y rfl rfl (zbO («as»:=[]) (bs:=[_]) rfl rfl) ?_
 refine zjY 0 zw6 rfl rfl rfl (fun w B hF=>zkP _ _ v.opens (fun o=>!f o) 118 [.pointer (some ⟨b3,0,none⟩)] zw7 (Two (Box b3 [.func (.func gg) #[] gcap.toArray] 147) R) w B (fun k hk=>(hF.own k hk).2) hF.A (by unfold zaP; omega) (zwh (hF.other 0 rfl) (hF.rd (Has.rd hR))) (fun o w' hm=>zoD o b3 f gg gcap hen R w' (ztZ hm) (zt0 hm) hg)) fun u10 hq10=>?_
 refine gk_y rfl rfl (zad rfl) ?_
 refine zag (zae (T':=[(2,_),(4,_),(5,_)]) ⟨rfl,rfl,rfl,trivial⟩ ?_)
 refine zae (T':=[(2,_),(4,_),(5,.slice p8.1 (v.opens.filter f).length p8.2)]) ⟨rfl,rfl,(by rw [←hof]; rfl),trivial⟩ ?_
 refine zac ?_
 refine zaa ?_
 refine gk_y rfl rfl (zab zgo rfl) ?_
 refine gk_y rfl rfl (zah 2 tf3 rfl rfl rfl) ?_
 refine gk_y rfl rfl (zaf rfl) ?_
 refine zaG rfl rfl (zbm zw8 rfl (fun w hw=>zut _ _ _ (v.opens.filter f) w (zum hof (zl3 (l:=offL (fun o=>!f o) v.opens) (zam encOpn_ok (hw.has (p:=0) rfl)))) (by unfold zaP; omega) (by omega) (by omega) (hF.inW f))) fun p14=>?_
 refine gk_y rfl rfl (zad rfl) ?_
 refine zag (zae (T':=[(4,_)]) ⟨rfl,trivial⟩ ?_)
 refine zaw ?_
 refine zbd p14 0 (zaC rfl (zau rfl)) ?_ rfl
 rfl
end Go.Proofs.YtdcfcfhmkfkgmaaGreatDoor
namespace Go.Proofs.YtdcfcfhmkfkgmaaGreatDoor
open Go.K Go.Stn Go.Pln Go.RowKit
theorem ztk (x0a:Option Addr) (x0n x0c:Nat) (w:World):(Instr.build 31 #[(0,.slice x0a x0n x0c)]).run Tryz.prog w=.ok (.agg #[.slice x0a x0n x0c,.slice none 0 0]) w:=by kernel_rfl
set_option maxRecDepth 100000 in
set_option maxHeartbeats 4000000 in
theorem ztt (a:Option Addr) (cap:Nat) (S:List ShC) (b:Option Addr) (bcap:Nat) (V:List WlC) (w:World) (hl:Has w (zaW a 20 zbH S)) (hs:zaP S.length) (hcS:S.length≤cap) (hlw:Has w (zaW b 4 zbS V)) (hsw:zaP V.length) (hsh:∀ z∈S,Has w (Ints z.a z.s.heights)) (hss:∀ z∈S,zaP z.s.heights.length) (hwo:∀ z∈V,Has w (zaW z.a 5 zba z.s.opens)) (hsv:∀ z∈V,zaP z.s.opens.length) (hcp:∀ z∈V,z.s.opens.length≤z.cap) (hkn:∀ z∈V,∀ o∈z.s.opens,Knd o) :
  Calls Tryz.prog 16 #[.agg #[.slice a S.length cap,.slice b V.length bcap]] w (Pure (.int .i64 (zeW S V)) w):=by
 refine zan (vs:=[_]) Tryz.func16 rfl rfl (Nat.le_of_ble_eq_true rfl) ?_
 refine zac ?_
 refine zaa ?_
 refine zaG rfl rfl (za3 (vs:=[_,_]) rfl rfl) fun b1=>?_
 refine gk_y rfl rfl (zad rfl) ?_
 refine zag (zae (T':=[(1,_),(2,_)]) ⟨rfl,rfl,trivial⟩ ?_)
 refine zac ?_
 refine zac ?_
 refine zbb 10 (fun _=>mixed) (by kernel_rfl) ?_
 refine ph_y (zab zeo rfl) ?_
 refine ph_y (zah 0 tf28 rfl rfl rfl) ?_
 refine ph_y (zaV (Tryz.underlying28) rfl) ?_
 refine ph_y (zc6 rfl rfl) ?_
 refine ph_y (zaf rfl) ?_
 refine zaz rfl rfl (fun hgd=>by(try rw [hgd]); exact(zab zd7 rfl)) ?_
 refine zaz rfl rfl (fun hgd=>by(try rw [hgd]); exact(zah 0 tf29 rfl rfl rfl)) ?_
 refine zaz rfl rfl (fun hgd=>by(try rw [hgd]); exact(zaV (Tryz.underlying29) rfl)) ?_
 refine zaz rfl rfl (fun hgd=>by(try rw [hgd]); exact(zc6 rfl rfl)) ?_
 refine ph_y (zaR rfl rfl rfl) ?_
 refine zag (zae (T':=[(1,_),(2,_),(20,_)]) ⟨rfl,rfl,rfl,trivial⟩ ?_)
 refine zap rfl (fun hc20=>?_) (fun hc20=>?_)
 ·have hP:=zqs (S:=S) (V:=V) hc20
  refine zac ?_
  refine zaa ?_
  refine gk_y rfl rfl (zad rfl) ?_
  refine zag (zae (T':=[(1,_),(2,_)]) ⟨rfl,rfl,trivial⟩ ?_)
  refine zaw ?_
  refine zay (zaC rfl (zau rfl)) ?_
  rw [zeW,hP]; rfl
 ·
  refine zaq ?_
  refine zac ?_
  refine zac ?_
  refine zaa ?_
  refine gk_y rfl rfl (zab zeo rfl) ?_
  refine gk_y rfl rfl (zah 0 tf28 rfl rfl rfl) ?_
  refine gk_y rfl rfl (zaV (Tryz.underlying28) rfl) ?_
  refine gk_y rfl rfl (zaf rfl) ?_
  refine zag (zae (T':=[(1,_),(2,_),(22,_),(23,_),(24,_)]) ⟨rfl,rfl,rfl,rfl,rfl,trivial⟩ ?_)
  refine zas ?_
  refine zbf (X:=Int) (fun(i:Int)=>[(1,.pointer (some ⟨b1,0,none⟩)),(2,.int .i64 0),(22,.slice a S.length cap),(23,.int .i64 (S.length:Int)),(24,.int .i64 i)]) (fun(i:Int)=>[Box b1 [.slice a S.length cap,.slice b V.length bcap] 31]) (fun(i:Int)=>(0≤i∧i≤S.length∧∀ j:Nat,(j:Int) < i→shAt S j=true)) (fun(i:Int)=>(S.length - i).toNat) 0 ⟨rfl,rfl,rfl,rfl,rfl,trivial⟩ rfl ?_ ?_
  ·exact⟨by omega,by omega,fun j hj=>by omega⟩
  ·rintro i hI
   obtain⟨g0,g1,g2⟩:=hI
   refine zac ?_
   refine zaa ?_
   refine gk_y rfl rfl (zbw rfl rfl) ?_
   refine zag (zae (T':=[(1,_),(2,_),(22,_),(23,_),(24,_),(25,_)]) ⟨rfl,rfl,rfl,rfl,rfl,rfl,trivial⟩ ?_)
   refine zac ?_
   refine zap rfl (fun hc25=>?_) (fun hc25=>?_)
   ·have hc25:=of_decide_eq_true hc25
    refine zaq ?_
    refine zac ?_
    refine zas ?_
    refine zac ?_
    refine zaa ?_
    refine gk_y rfl rfl (zaf rfl) ?_
    refine gk_y rfl rfl (zaE se28 rfl rfl (fun _ hw=>(Rd.has (Has.rd hl) hw)) (by omega) (by omega)) ?_
    refine gk_y rfl rfl (zbv (vs:=[_,_,_,_,_,_,_,_,_,_,_,_,_,_,_,_,_,_,_,_]) tf41 rfl (fun _ hw=>(Rd.has (Has.rd hl) hw)) (by omega) (by omega) rfl) ?_
    refine zaG rfl rfl (zaL tf41 (zs:=[_,_,_,_,_,_,_,_,_,_,_,_,_,_,_,_,_,_,_,_]) rfl) fun b4=>?_
    refine gk_y rfl rfl (zad rfl) ?_
    refine zbz 0 tf41 rfl rfl (vs:=[_,_,_,_,_,_,_,_,_,_,_,_,_,_,_,_,_,_,_,_]) rfl rfl rfl rfl rfl ?_
    refine zag (zae (T':=[(1,_),(2,_),(3,_),(4,_),(22,_),(23,_),(24,_)]) ⟨rfl,rfl,rfl,rfl,rfl,rfl,rfl,trivial⟩ ?_)
    refine zac ?_
    refine zf3 (ch [(11,Nat)]) 14 [0,1,0,7,15,0,32,127,255,511,511,0,3071,8191] (fun _=>mixed) (by kernel_rfl) (zjK _ ⟨inferInstance,trivial⟩) ?_
    refine zbD (fun ρ=>zab zeo rfl) (fun ρ ρ' h=>by rfl) ?_
    refine zbD (fun ρ=>zah 1 tf28 rfl rfl rfl) (fun ρ ρ' h=>by rfl) ?_
    refine zbD (fun ρ=>zaf rfl) (fun ρ ρ' h=>by rfl) ?_
    refine zbD (fun ρ=>zg8 se28 rfl rfl (by omega) (by omega) hcS) (fun ρ ρ' h=>by rfl) ?_
    refine zbD (fun ρ=>zaI rfl (ztk _ _ _)) (fun ρ ρ' h=>by rfl) ?_
    refine zbD (fun ρ=>zab znb rfl) (fun ρ ρ' h=>by rfl) ?_
    refine zbD (fun ρ=>zah 0 tf9 rfl rfl rfl) (fun ρ ρ' h=>by rfl) ?_
    refine zbD (fun ρ=>zaJ en46 rfl (fun w hw=>zeu _ _ (S.take i.toNat) _ _ _ _ w (zje (Rd.has (Has.rd hl) hw) (by omega) (by omega)) (by rw [List.length_take]; have:=hs; unfold zaP at *; omega))) (fun ρ ρ' h=>by rfl) ?_
    refine zbD (fun ρ=>zaf rfl) (fun ρ ρ' h=>by rfl) ?_
    refine zbD (fun ρ=>zaB rfl rfl) (fun ρ ρ' h=>by rfl) ?_
    refine zbD (fun ρ=>zaB rfl rfl) (fun ρ ρ' h=>by rfl) ?_
    refine zgB (fun ρ=>zaL tf41 (zs:=[_,_,_,_,_,_,_,_,_,_,_,_,_,_,_,_,_,_,_,_]) rfl) (fun ρ ρ' h=>⟨by rfl,by rfl⟩) ?_
    refine zlr (R:=fun ρ=>Box (ρ 11) [.string ⟨#[]⟩,.int .i64 0,.int .i64 0,.int .i64 0,.int .i64 0,.slice none 0 0,.int .i64 0,.int .i64 0,.int .i64 0,.int .i64 0,.int .i64 0,.int .i64 0,.int .i64 0,.int .u8 0,.int .i64 0,.int .i64 0,.int .i64 0,.int .i64 0,.int .i64 0,.int .i64 0] 41) (A:=fun ρ=>Box (ρ 11) [.string (zav (S.take i.toNat) ((S.getD (i).toNat default).s.name)).s.name,.int .i64 ((zav (S.take i.toNat) ((S.getD (i).toNat default).s.name)).s.base),.int .i64 ((zav (S.take i.toNat) ((S.getD (i).toNat default).s.name)).s.batter),.int .i64 ((zav (S.take i.toNat) ((S.getD (i).toNat default).s.name)).s.height),.int .i64 ((zav (S.take i.toNat) ((S.getD (i).toNat default).s.name)).s.skin),.slice (zav (S.take i.toNat) ((S.getD (i).toNat default).s.name)).a (zav (S.take i.toNat) ((S.getD (i).toNat default).s.name)).s.heights.length (zav (S.take i.toNat) ((S.getD (i).toNat default).s.name)).cap,.int .i64 ((zav (S.take i.toNat) ((S.getD (i).toNat default).s.name)).s.least),.int .i64 ((zav (S.take i.toNat) ((S.getD (i).toNat default).s.name)).s.lap),.int .i64 ((zav (S.take i.toNat) ((S.getD (i).toNat default).s.name)).s.run),.int .i64 ((zav (S.take i.toNat) ((S.getD (i).toNat default).s.name)).s.every),.int .i64 ((zav (S.take i.toNat) ((S.getD (i).toNat default).s.name)).s.at_),.int .i64 ((zav (S.take i.toNat) ((S.getD (i).toNat default).s.name)).s.footing),.int .i64 ((zav (S.take i.toNat) ((S.getD (i).toNat default).s.name)).s.spread),.int .u8 (zav (S.take i.toNat) ((S.getD (i).toNat default).s.name)).s.cope,.int .i64 ((zav (S.take i.toNat) ((S.getD (i).toNat default).s.name)).s.tall),.int .i64 ((zav (S.take i.toNat) ((S.getD (i).toNat default).s.name)).s.short),.int .i64 ((zav (S.take i.toNat) ((S.getD (i).toNat default).s.name)).s.thick),.int .i64 ((zav (S.take i.toNat) ((S.getD (i).toNat default).s.name)).s.low),.int .i64 ((zav (S.take i.toNat) ((S.getD (i).toNat default).s.name)).s.high),.int .i64 ((zav (S.take i.toNat) ((S.getD (i).toNat default).s.name)).s.rood)] 41) 11 rfl rfl (fun _=>rfl) (fun ρ=>zex tf41 rfl rfl (vs:=[_,_,_,_,_,_,_,_,_,_,_,_,_,_,_,_,_,_,_,_]) rfl rfl rfl rfl rfl) (fun ρ ρ' h=>by(first | rfl | simp only [h 11 rfl])) ?_
    refine zbD (fun ρ=>zad rfl) (fun ρ ρ' h=>by rfl) ?_
    refine fun ρ=>zag (zf4 (X:=Nat) (ρ 11) (fun b5=>[(1,.pointer (some ⟨b1,0,none⟩)),(2,.int .i64 0),(4,.pointer (some ⟨b4,0,none⟩)),(6,.bool (decide (0≤zaS (S.take i.toNat) ((S.getD (i).toNat default).s.name)))),(22,.slice a S.length cap),(23,.int .i64 (S.length:Int)),(24,.int .i64 i)]) (fun b5=>[Box b5 [.string (zav (S.take i.toNat) ((S.getD (i).toNat default).s.name)).s.name,.int .i64 ((zav (S.take i.toNat) ((S.getD (i).toNat default).s.name)).s.base),.int .i64 ((zav (S.take i.toNat) ((S.getD (i).toNat default).s.name)).s.batter),.int .i64 ((zav (S.take i.toNat) ((S.getD (i).toNat default).s.name)).s.height),.int .i64 ((zav (S.take i.toNat) ((S.getD (i).toNat default).s.name)).s.skin),.slice (zav (S.take i.toNat) ((S.getD (i).toNat default).s.name)).a (zav (S.take i.toNat) ((S.getD (i).toNat default).s.name)).s.heights.length (zav (S.take i.toNat) ((S.getD (i).toNat default).s.name)).cap,.int .i64 ((zav (S.take i.toNat) ((S.getD (i).toNat default).s.name)).s.least),.int .i64 ((zav (S.take i.toNat) ((S.getD (i).toNat default).s.name)).s.lap),.int .i64 ((zav (S.take i.toNat) ((S.getD (i).toNat default).s.name)).s.run),.int .i64 ((zav (S.take i.toNat) ((S.getD (i).toNat default).s.name)).s.every),.int .i64 ((zav (S.take i.toNat) ((S.getD (i).toNat default).s.name)).s.at_),.int .i64 ((zav (S.take i.toNat) ((S.getD (i).toNat default).s.name)).s.footing),.int .i64 ((zav (S.take i.toNat) ((S.getD (i).toNat default).s.name)).s.spread),.int .u8 (zav (S.take i.toNat) ((S.getD (i).toNat default).s.name)).s.cope,.int .i64 ((zav (S.take i.toNat) ((S.getD (i).toNat default).s.name)).s.tall),.int .i64 ((zav (S.take i.toNat) ((S.getD (i).toNat default).s.name)).s.short),.int .i64 ((zav (S.take i.toNat) ((S.getD (i).toNat default).s.name)).s.thick),.int .i64 ((zav (S.take i.toNat) ((S.getD (i).toNat default).s.name)).s.low),.int .i64 ((zav (S.take i.toNat) ((S.getD (i).toNat default).s.name)).s.high),.int .i64 ((zav (S.take i.toNat) ((S.getD (i).toNat default).s.name)).s.rood)] 41,Box b4 [.string (S.getD (i).toNat default).s.name,.int .i64 ((S.getD (i).toNat default).s.base),.int .i64 ((S.getD (i).toNat default).s.batter),.int .i64 ((S.getD (i).toNat default).s.height),.int .i64 ((S.getD (i).toNat default).s.skin),.slice (S.getD (i).toNat default).a (S.getD (i).toNat default).s.heights.length (S.getD (i).toNat default).cap,.int .i64 ((S.getD (i).toNat default).s.least),.int .i64 ((S.getD (i).toNat default).s.lap),.int .i64 ((S.getD (i).toNat default).s.run),.int .i64 ((S.getD (i).toNat default).s.every),.int .i64 ((S.getD (i).toNat default).s.at_),.int .i64 ((S.getD (i).toNat default).s.footing),.int .i64 ((S.getD (i).toNat default).s.spread),.int .u8 (S.getD (i).toNat default).s.cope,.int .i64 ((S.getD (i).toNat default).s.tall),.int .i64 ((S.getD (i).toNat default).s.short),.int .i64 ((S.getD (i).toNat default).s.thick),.int .i64 ((S.getD (i).toNat default).s.low),.int .i64 ((S.getD (i).toNat default).s.high),.int .i64 ((S.getD (i).toNat default).s.rood)] 41,Box b1 [.slice a S.length cap,.slice b V.length bcap] 31]) ⟨rfl,rfl,rfl,rfl,rfl,rfl,rfl,trivial⟩ rfl ?_)
    rintro b5
    refine zac ?_
    refine zbb 6 (fun _=>mixed) (by kernel_rfl) ?_
    refine ph_y (zaf rfl) ?_
    refine ph_y (zaf rfl) ?_
    refine zaz rfl rfl (fun hgd=>by(try rw [hgd]); exact(zat 1 tf41 rfl rfl (vs:=[_,_,_,_,_,_,_,_,_,_,_,_,_,_,_,_,_,_,_,_]) rfl rfl)) ?_
    refine zaz rfl rfl (fun hgd=>by(try rw [hgd]); exact(zaJ (v:=.int .i64 (zcX ((S.getD (i).toNat default).s))) en20 rfl (fun w hw=>zd4 ((S.getD (i).toNat default).a) ((S.getD (i).toNat default).cap) ((S.getD (i).toNat default).s) w (Rd.has (Has.rd (hsh _ (za0 (by omega)))) hw) (hss _ (za0 (by omega)))))) ?_
    refine zaz rfl rfl (fun hgd=>by(try rw [hgd]); exact(zcr rfl rfl)) ?_
    refine ph_y (zaR rfl rfl rfl) ?_
    refine zag (zae (T':=[(1,_),(2,_),(22,_),(23,_),(24,_),(45,_)]) ⟨rfl,rfl,rfl,rfl,rfl,rfl,trivial⟩ ?_)
    refine zap rfl (fun hc45=>?_) (fun hc45=>?_)
    ·have hno:shAt S i.toNat=false:=zqg ((zqK g0 hc25).symm.trans hc45)
     refine zac ?_
     refine zaa ?_
     refine gk_y rfl rfl (zad rfl) ?_
     refine zag (zae (T':=[(1,_),(2,_),(22,_),(23,_),(24,_)]) ⟨rfl,rfl,rfl,rfl,rfl,trivial⟩ ?_)
     refine zaw ?_
     refine zay (zaC rfl (zau rfl)) ?_
     rw [zeW,znF g0 hc25 hno]; rfl
    ·have hyes:shAt S i.toNat=true:=zll ((zqK g0 hc25).symm.trans hc45)
     refine zaq ?_
     refine zaa ?_
     refine gk_y rfl rfl (zaY rfl rfl (by omega) (by omega)) ?_
     refine gk_y rfl rfl (zaf rfl) ?_
     refine zag (zae (T':=[(1,_),(2,_),(22,_),(23,_),(24,_)]) ⟨rfl,rfl,rfl,rfl,rfl,trivial⟩ ?_)
     refine zaK 0 rfl ?_
     refine zaK 0 rfl ?_
     exact za1 (i+1) ⟨rfl,rfl,rfl,rfl,rfl,trivial⟩ rfl ⟨by omega,by omega,zdu g0 g2 hyes⟩ (by omega)
   ·have hc25:=of_decide_eq_false hc25
    have hS:=zg3 (S:=S) (fun j hj=>g2 j (by omega))
    refine za8 rfl ?_
    refine zac ?_
    refine zac ?_
    refine zaa ?_
    refine gk_y rfl rfl (zab zd7 rfl) ?_
    refine gk_y rfl rfl (zah 0 tf29 rfl rfl rfl) ?_
    refine gk_y rfl rfl (zaV (Tryz.underlying29) rfl) ?_
    refine gk_y rfl rfl (zaf rfl) ?_
    refine zag (zae (T':=[(1,_),(2,_),(48,_),(49,_),(50,_)]) ⟨rfl,rfl,rfl,rfl,rfl,trivial⟩ ?_)
    refine zas ?_
    refine zbf (X:=Int) (fun(i:Int)=>[(1,.pointer (some ⟨b1,0,none⟩)),(2,.int .i64 0),(48,.slice b V.length bcap),(49,.int .i64 (V.length:Int)),(50,.int .i64 i)]) (fun(i:Int)=>[Box b1 [.slice a S.length cap,.slice b V.length bcap] 31]) (fun(i:Int)=>(0≤i∧i≤V.length∧∀ j:Nat,(j:Int) < i→wlAt S V j=true)) (fun(i:Int)=>(V.length - i).toNat) 0 ⟨rfl,rfl,rfl,rfl,rfl,trivial⟩ rfl ?_ ?_
    ·exact⟨by omega,by omega,fun j hj=>by omega⟩
    ·rintro i hI
     have gi2:=g2; have hgi:=hc25
     rename_i ii
     obtain⟨k0,k1,k2⟩:=hI
     refine zac ?_
     refine zaa ?_
     refine gk_y rfl rfl (zbw rfl rfl) ?_
     refine zag (zae (T':=[(1,_),(2,_),(48,_),(49,_),(50,_),(51,_)]) ⟨rfl,rfl,rfl,rfl,rfl,rfl,trivial⟩ ?_)
     refine zac ?_
     refine zap rfl (fun hc51=>?_) (fun hc51=>?_)
     ·have hc51:=of_decide_eq_true hc51
      refine zaq ?_
      refine zac ?_
      refine zas ?_
      refine zac ?_
      refine zaa ?_
      refine gk_y rfl rfl (zaf rfl) ?_
      refine gk_y rfl rfl (zaE se29 rfl rfl (fun _ hw=>(Rd.has (Has.rd hlw) hw)) (by omega) (by omega)) ?_
      refine gk_y rfl rfl (zbv (vs:=[_,_,_,_]) tf94 rfl (fun _ hw=>(Rd.has (Has.rd hlw) hw)) (by omega) (by omega) rfl) ?_
      refine zaG rfl rfl (zaL tf94 (zs:=[_,_,_,_]) rfl) fun b8=>?_
      refine gk_y rfl rfl (zad rfl) ?_
      refine zaA 0 tf94 rfl rfl (vs:=[_,_,_,_]) rfl rfl rfl rfl rfl ?_
      refine zag (zae (T':=[(1,_),(2,_),(7,_),(8,_),(48,_),(49,_),(50,_)]) ⟨rfl,rfl,rfl,rfl,rfl,rfl,rfl,trivial⟩ ?_)
      refine zac ?_
      refine zaa ?_
      refine gk_y rfl rfl (zat 1 tf31 rfl rfl (vs:=[_,_]) rfl rfl) ?_
      refine gk_y rfl rfl (zab zni rfl) ?_
      refine gk_y rfl rfl (zah 0 tf9 rfl rfl rfl) ?_
      refine gk_y rfl rfl (zaJ en46 rfl (fun w hw=>zeu _ _ S _ _ _ _ w (Rd.has (Has.rd hl) hw) (by assumption))) ?_
      refine gk_y rfl rfl (zaf rfl) ?_
      refine gk_y rfl rfl (zaB rfl rfl) ?_
      refine gk_y rfl rfl (zaB rfl rfl) ?_
      refine zaG rfl rfl (zaL tf41 (zs:=[_,_,_,_,_,_,_,_,_,_,_,_,_,_,_,_,_,_,_,_]) rfl) fun b9=>?_
      refine zbz 0 tf41 rfl rfl (vs:=[_,_,_,_,_,_,_,_,_,_,_,_,_,_,_,_,_,_,_,_]) rfl rfl rfl rfl rfl ?_
      refine gk_y rfl rfl (zad rfl) ?_
      refine zag (zae (T':=[(1,_),(2,_),(7,_),(8,_),(9,_),(10,_),(48,_),(49,_),(50,_)]) ⟨rfl,rfl,rfl,rfl,rfl,rfl,rfl,rfl,rfl,trivial⟩ ?_)
      refine zac ?_
      refine zbb 16 (fun _=>mixed) (by kernel_rfl) ?_
      refine ph_y (zaf rfl) ?_
      refine ph_y (zbR rfl) ?_
      refine ph_y (zaf rfl) ?_
      refine zaz rfl rfl (fun hgd=>by(try rw [hgd]); exact(zat 2 tf31 rfl rfl (vs:=[_,_]) rfl rfl)) ?_
      refine zaz rfl rfl (fun hgd=>by(try rw [hgd]); exact(zab znh rfl)) ?_
      refine zaz rfl rfl (fun hgd=>by(try rw [hgd]); exact(zah 1 tf9 rfl rfl rfl)) ?_
      refine zaz rfl rfl (fun hgd=>by(try rw [hgd]); exact(zaJ (v:=.int .i64 (zaM V ((V.getD (i).toNat default).s.name))) en47 rfl (fun w hw=>zkg _ _ _ _ _ V _ w (Rd.has (Has.rd hlw) hw) (by assumption)))) ?_
      refine zaz rfl rfl (fun hgd=>by(try rw [hgd]); exact(zaf rfl)) ?_
      refine zaz rfl rfl (fun hgd=>by(try rw [hgd]); exact(zbw rfl rfl)) ?_
      refine ph_y (zaR rfl rfl rfl) ?_
      refine ph_y (zaf rfl) ?_
      refine zaz rfl rfl (fun hgd=>by(try rw [hgd]); exact(zat 1 tf94 rfl rfl (vs:=[_,_,_,_]) rfl rfl)) ?_
      refine zaz rfl rfl (fun hgd=>by(try rw [hgd]); exact(zat 0 tf41 rfl rfl (vs:=[_,_,_,_,_,_,_,_,_,_,_,_,_,_,_,_,_,_,_,_]) rfl rfl)) ?_
      refine zaz rfl rfl (fun hgd=>by(try rw [hgd]); exact(zaJ (v:=.bool (zd1 ((zav S ((V.getD (i).toNat default).s.sheet)).s).height ((V.getD (i).toNat default).s))) en48 rfl (fun w hw=>zmI ((V.getD (i).toNat default).a) ((V.getD (i).toNat default).cap) ((V.getD (i).toNat default).s) ((zav S ((V.getD (i).toNat default).s.sheet)).a) ((zav S ((V.getD (i).toNat default).s.sheet)).cap) ((zav S ((V.getD (i).toNat default).s.sheet)).s) w (Rd.has (Has.rd (hwo _ (za0 (by omega)))) hw) (hcp _ (za0 (by omega))) (hsv _ (za0 (by omega))) (hkn _ (za0 (by omega))) (zog hS)))) ?_
      refine zaz rfl rfl (fun hgd=>by(try rw [hgd]); exact(zbR rfl)) ?_
      refine ph_y (zaR rfl rfl rfl) ?_
      refine zag (zae (T':=[(1,_),(2,_),(48,_),(49,_),(50,_),(77,_)]) ⟨rfl,rfl,rfl,rfl,rfl,rfl,trivial⟩ ?_)
      refine zap rfl (fun hc77=>?_) (fun hc77=>?_)
      ·have hno:wlAt S V i.toNat=false:=zqg ((zqY k0 hc51).symm.trans hc77)
       refine zac ?_
       refine zaa ?_
       refine gk_y rfl rfl (zad rfl) ?_
       refine zag (zae (T':=[(1,_),(2,_),(48,_),(49,_),(50,_)]) ⟨rfl,rfl,rfl,rfl,rfl,trivial⟩ ?_)
       refine zaw ?_
       refine zay (zaC rfl (zau rfl)) ?_
       rw [zeW,znG k0 hc51 hno]; rfl
      ·have hyes:wlAt S V i.toNat=true:=zll ((zqY k0 hc51).symm.trans hc77)
       refine zaq ?_
       refine zaa ?_
       refine gk_y rfl rfl (zaY rfl rfl (by omega) (by omega)) ?_
       refine gk_y rfl rfl (zaf rfl) ?_
       refine zag (zae (T':=[(1,_),(2,_),(48,_),(49,_),(50,_)]) ⟨rfl,rfl,rfl,rfl,rfl,trivial⟩ ?_)
       refine zaK 0 rfl ?_
       refine zaK 0 rfl ?_
       exact za1 (i+1) ⟨rfl,rfl,rfl,rfl,rfl,trivial⟩ rfl ⟨by omega,by omega,zdu k0 k2 hyes⟩ (by omega)
     ·have hc51:=of_decide_eq_false hc51
      refine za8 rfl ?_
      refine zac ?_
      refine zaa ?_
      refine gk_y rfl rfl (zad rfl) ?_
      refine zag (zae (T':=[(2,_)]) ⟨rfl,trivial⟩ ?_)
      refine zaw ?_
      refine zay (zaC rfl (zau rfl)) ?_
      rw [zeW,znH hc25 hc51 g2 k2]; simp only [Bool.or_eq_false_iff,decide_eq_false_iff_not] at hc20; rw [decide_eq_true (by omega),decide_eq_true (by omega)]; rfl
end Go.Proofs.YtdcfcfhmkfkgmaaGreatDoor
namespace Go.Proofs.YtdcfcfhmkfkgmaaGreatDoor
open Go.K Go.Stn Go.Pln Go.RowKit
theorem en16:En Tryz.prog 16:=za7 Tryz.func16 (by kernel_rfl) (by kernel_rfl)
theorem zvb  (w:World):(Instr.build 94 #[]).run Tryz.prog w=.ok (.agg #[.string ⟨#[]⟩,.string ⟨#[]⟩,.int IntKind.i64 0,.slice none 0 0]) w:=by kernel_rfl
theorem zhG {w:World} {S:List ShC} {V:List WlC} {n:ByteArray} (h:∀ z∈S,Has w (Ints z.a z.s.heights)):Has w (Ints (zar S V n).a (zar S V n).s.heights):=by
 unfold zar
 split
 ·exact zpL h
 ·exact⟨fun _=>False,fun _ h=>h.elim,.inl rfl⟩
theorem zfL {w:World} {S:List ShC} {V:List WlC} {n:ByteArray} (h:∀ z∈V,Has w (zaW z.a 5 zba z.s.opens)):Has w (zaW (zaN S V n).a 5 zba (zaN S V n).s.opens):=by
 unfold zaN zhq
 split
 ·split
  ·rename_i hk
   exact h _ (za0 (by have:=zky hk; omega))
  ·exact⟨fun _=>False,fun _ h=>h.elim,.inl rfl⟩
 ·exact⟨fun _=>False,fun _ h=>h.elim,.inl rfl⟩
set_option maxRecDepth 100000 in
set_option maxHeartbeats 8000000 in
theorem zm9 (a:Option Addr) (cap:Nat) (S:List ShC) (b:Option Addr) (bcap:Nat) (V:List WlC) (n:ByteArray) (w:World) (hl:Has w (zaW a 20 zbH S)) (hs:zaP S.length) (hcS:S.length≤cap) (hlw:Has w (zaW b 4 zbS V)) (hsw:zaP V.length) (hsh:∀ z∈S,Has w (Ints z.a z.s.heights)) (hss:∀ z∈S,zaP z.s.heights.length) (hwo:∀ z∈V,Has w (zaW z.a 5 zba z.s.opens)) (hsv:∀ z∈V,zaP z.s.opens.length) (hcp:∀ z∈V,z.s.opens.length≤z.cap) (hkn:∀ z∈V,∀ o∈z.s.opens,Knd o) :
  Calls Tryz.prog 62 #[.agg #[.slice a S.length cap,.slice b V.length bcap],.string n] w (Pure (.tuple #[.agg (zbS (zaN S V n)).toArray,.agg (zbH (zar S V n)).toArray,.int .i64 (zb6 S V n)]) w):=by
 have hlt:=fun h=>zky (S:=V) (n:=n) h
 have hge:-1≤zaM V n:=zrp _ _
 refine zan (vs:=[_,_]) Tryz.func62 rfl rfl (Nat.le_of_ble_eq_true rfl) ?_
 refine zac ?_
 refine zaa ?_
 refine zaG rfl rfl (za3 (vs:=[_,_]) rfl rfl) fun b2=>?_
 refine zaG rfl rfl (zaL tf94 (zs:=[_,_,_,_]) rfl) fun b4=>?_
 refine zaG rfl rfl (zaL tf41 (zs:=[_,_,_,_,_,_,_,_,_,_,_,_,_,_,_,_,_,_,_,_]) rfl) fun b5=>?_
 refine gk_y rfl rfl (zad rfl) ?_
 refine zag (zae (T':=[(1,_),(2,_),(4,_),(5,_),(6,_)]) ⟨rfl,rfl,rfl,rfl,rfl,trivial⟩ ?_)
 refine zac ?_
 refine zac ?_
 refine zaa ?_
 refine gk_y rfl rfl (zat 2 tf31 rfl rfl (vs:=[_,_]) rfl rfl) ?_
 refine gk_y rfl rfl (zaJ en16 rfl (fun w hw=>ztt _ _ S _ _ V w (Rd.has (Has.rd hl) hw) hs hcS (Rd.has (Has.rd hlw) hw) hsw (fun z hz=>(Rd.has (Has.rd (hsh z hz)) hw)) hss (fun z hz=>(Rd.has (Has.rd (hwo z hz)) hw)) hsv hcp hkn)) ?_
 refine gk_y rfl rfl (zad rfl) ?_
 refine zag (zae (T':=[(1,_),(2,_),(4,_),(5,_),(6,_),(7,_)]) ⟨rfl,rfl,rfl,rfl,rfl,rfl,trivial⟩ ?_)
 refine zac ?_
 refine zaa ?_
 refine gk_y rfl rfl (zaf rfl) ?_
 refine gk_y rfl rfl (zcr rfl rfl) ?_
 refine zag (zae (T':=[(1,_),(2,_),(4,_),(5,_),(6,_),(7,_),(14,_)]) ⟨rfl,rfl,rfl,rfl,rfl,rfl,rfl,trivial⟩ ?_)
 refine zap rfl (fun hc14=>?_) (fun hc14=>?_)
 ·have hP:¬ zc4 S V=true:=fun h=>by rw [zeW,if_pos h] at hc14; simp at hc14
  have hE:zb6 S V n=2:=zm8 hP
  have hC:zeW S V=2:=if_neg hP
  refine zac ?_
  refine zaa ?_
  refine gk_y rfl rfl (zaI (parts:=[]) rfl zvb) ?_
  refine gk_y rfl rfl (zaI (parts:=[]) rfl ztl) ?_
  refine gk_y rfl rfl (zaf rfl) ?_
  refine zaA 1 tf94 rfl rfl (vs:=[_,_,_,_]) rfl rfl rfl rfl rfl ?_
  refine zbz 0 tf41 rfl rfl (vs:=[_,_,_,_,_,_,_,_,_,_,_,_,_,_,_,_,_,_,_,_]) rfl rfl rfl rfl rfl ?_
  refine gk_y rfl rfl (zad rfl) ?_
  refine zag (zae (T':=[(1,_),(2,_),(4,_),(5,_),(6,_)]) ⟨rfl,rfl,rfl,rfl,rfl,trivial⟩ ?_)
  refine zaw ?_
  refine zay (zdh rfl (zbU (i:=1) (vs:=[_,_,_,_]) tf94 rfl rfl rfl rfl) (zbU (i:=0) (vs:=[.string ⟨#[]⟩,.int .i64 0,.int .i64 0,.int .i64 0,.int .i64 0,.slice none 0 0,.int .i64 0,.int .i64 0,.int .i64 0,.int .i64 0,.int .i64 0,.int .i64 0,.int .i64 0,.int .u8 0,.int .i64 0,.int .i64 0,.int .i64 0,.int .i64 0,.int .i64 0,.int .i64 0]) tf41 rfl rfl rfl rfl) (zau rfl)) ?_
  rw [hC]; rw [show zaN S V n=default from if_neg (by rw [hE]; decide),show zar S V n=default from if_neg (by rw [hE]; decide),hE]; rfl
 ·have hP:zc4 S V=true:=Classical.byContradiction fun h=>by rw [zeW,if_neg h] at hc14; simp at hc14
  refine zaq ?_
  refine zac ?_
  refine zaa ?_
  refine gk_y rfl rfl (zat 2 tf31 rfl rfl (vs:=[_,_]) rfl rfl) ?_
  refine gk_y rfl rfl (zaf rfl) ?_
  refine gk_y rfl rfl (zaJ en47 rfl (fun w hw=>zkg _ _ _ _ _ V _ w (Rd.has (Has.rd hlw) hw) (by assumption))) ?_
  refine gk_y rfl rfl (zad rfl) ?_
  refine zag (zae (T':=[(2,_),(4,_),(5,_),(6,_),(8,_)]) ⟨rfl,rfl,rfl,rfl,rfl,trivial⟩ ?_)
  refine zac ?_
  refine zac ?_
  refine zaa ?_
  refine gk_y rfl rfl (zaf rfl) ?_
  refine gk_y rfl rfl (zbw rfl rfl) ?_
  refine zag (zae (T':=[(2,_),(4,_),(5,_),(6,_),(8,_),(22,_)]) ⟨rfl,rfl,rfl,rfl,rfl,rfl,trivial⟩ ?_)
  refine zap rfl (fun hc22=>?_) (fun hc22=>?_)
  ·have hc22:=of_decide_eq_true hc22
   have hE:zb6 S V n=6:=zkV hP (by omega)
   refine zac ?_
   refine zaa ?_
   refine gk_y rfl rfl (zaI (parts:=[]) rfl zvb) ?_
   refine gk_y rfl rfl (zaI (parts:=[]) rfl ztl) ?_
   refine zaA 1 tf94 rfl rfl (vs:=[_,_,_,_]) rfl rfl rfl rfl rfl ?_
   refine zbz 0 tf41 rfl rfl (vs:=[_,_,_,_,_,_,_,_,_,_,_,_,_,_,_,_,_,_,_,_]) rfl rfl rfl rfl rfl ?_
   refine gk_y rfl rfl (zad rfl) ?_
   refine zag (zae (T':=[(2,_),(4,_),(5,_),(6,_),(8,_)]) ⟨rfl,rfl,rfl,rfl,rfl,trivial⟩ ?_)
   refine zaw ?_
   refine zay (zdh rfl (zbU (i:=1) (vs:=[_,_,_,_]) tf94 rfl rfl rfl rfl) (zbU (i:=0) (vs:=[.string ⟨#[]⟩,.int .i64 0,.int .i64 0,.int .i64 0,.int .i64 0,.slice none 0 0,.int .i64 0,.int .i64 0,.int .i64 0,.int .i64 0,.int .i64 0,.int .i64 0,.int .i64 0,.int .u8 0,.int .i64 0,.int .i64 0,.int .i64 0,.int .i64 0,.int .i64 0,.int .i64 0]) tf41 rfl rfl rfl rfl) (zau rfl)) ?_
   rw [show zaN S V n=default from if_neg (by rw [hE]; decide),show zar S V n=default from if_neg (by rw [hE]; decide),hE]; rfl
  ·have hc22:=of_decide_eq_false hc22
   have h0:0≤zaM V n:=by omega
   have h1:=hlt h0
   have hE:zb6 S V n=0:=zpp hP h0
   refine zaq ?_
   refine zac ?_
   refine zf3 (ch [(11,Nat)]) 14 [0,0,2,0,14,30,62,127,255,511,511,0,3071,8191] (fun _=>mixed) (by kernel_rfl) (zjK _ ⟨inferInstance,trivial⟩) ?_
   refine zbD (fun ρ=>zat 2 tf31 rfl rfl (vs:=[_,_]) rfl rfl) (fun ρ ρ' h=>by rfl) ?_
   refine zbD (fun ρ=>zab zd7 rfl) (fun ρ ρ' h=>by rfl) ?_
   refine zbD (fun ρ=>zah 2 tf29 rfl rfl rfl) (fun ρ ρ' h=>by rfl) ?_
   refine zbD (fun ρ=>zaf rfl) (fun ρ ρ' h=>by rfl) ?_
   refine zbD (fun ρ=>zaE se29 rfl rfl (fun _ hw=>(Rd.has (Has.rd hlw) hw)) (by omega) (by omega)) (fun ρ ρ' h=>by rfl) ?_
   refine zbD (fun ρ=>zbh zni rfl (fun w hw=>zaO (i:=(zaM V n)) (Rd.has (Has.rd hlw) hw) (by omega) (by omega))) (fun ρ ρ' h=>by rfl) ?_
   refine zbD (fun ρ=>zbn tf9 rfl (fun _ hw=>(Rd.has (Has.rd hlw) hw)) (by omega) (by omega) rfl) (fun ρ ρ' h=>by rfl) ?_
   refine zbD (fun ρ=>zaJ en46 rfl (fun w hw=>zeu _ _ S _ _ _ _ w (Rd.has (Has.rd hl) hw) (by assumption))) (fun ρ ρ' h=>by rfl) ?_
   refine zbD (fun ρ=>zaf rfl) (fun ρ ρ' h=>by rfl) ?_
   refine zbD (fun ρ=>zaB rfl rfl) (fun ρ ρ' h=>by rfl) ?_
   refine zbD (fun ρ=>zaB rfl rfl) (fun ρ ρ' h=>by rfl) ?_
   refine zgB (fun ρ=>zaL tf41 (zs:=[_,_,_,_,_,_,_,_,_,_,_,_,_,_,_,_,_,_,_,_]) rfl) (fun ρ ρ' h=>⟨by rfl,by rfl⟩) ?_
   refine zlr (R:=fun ρ=>Box (ρ 11) [.string ⟨#[]⟩,.int .i64 0,.int .i64 0,.int .i64 0,.int .i64 0,.slice none 0 0,.int .i64 0,.int .i64 0,.int .i64 0,.int .i64 0,.int .i64 0,.int .i64 0,.int .i64 0,.int .u8 0,.int .i64 0,.int .i64 0,.int .i64 0,.int .i64 0,.int .i64 0,.int .i64 0] 41) (A:=fun ρ=>Box (ρ 11) [.string (zav S ((V.getD ((zaM V n)).toNat default).s.sheet)).s.name,.int .i64 ((zav S ((V.getD ((zaM V n)).toNat default).s.sheet)).s.base),.int .i64 ((zav S ((V.getD ((zaM V n)).toNat default).s.sheet)).s.batter),.int .i64 ((zav S ((V.getD ((zaM V n)).toNat default).s.sheet)).s.height),.int .i64 ((zav S ((V.getD ((zaM V n)).toNat default).s.sheet)).s.skin),.slice (zav S ((V.getD ((zaM V n)).toNat default).s.sheet)).a (zav S ((V.getD ((zaM V n)).toNat default).s.sheet)).s.heights.length (zav S ((V.getD ((zaM V n)).toNat default).s.sheet)).cap,.int .i64 ((zav S ((V.getD ((zaM V n)).toNat default).s.sheet)).s.least),.int .i64 ((zav S ((V.getD ((zaM V n)).toNat default).s.sheet)).s.lap),.int .i64 ((zav S ((V.getD ((zaM V n)).toNat default).s.sheet)).s.run),.int .i64 ((zav S ((V.getD ((zaM V n)).toNat default).s.sheet)).s.every),.int .i64 ((zav S ((V.getD ((zaM V n)).toNat default).s.sheet)).s.at_),.int .i64 ((zav S ((V.getD ((zaM V n)).toNat default).s.sheet)).s.footing),.int .i64 ((zav S ((V.getD ((zaM V n)).toNat default).s.sheet)).s.spread),.int .u8 (zav S ((V.getD ((zaM V n)).toNat default).s.sheet)).s.cope,.int .i64 ((zav S ((V.getD ((zaM V n)).toNat default).s.sheet)).s.tall),.int .i64 ((zav S ((V.getD ((zaM V n)).toNat default).s.sheet)).s.short),.int .i64 ((zav S ((V.getD ((zaM V n)).toNat default).s.sheet)).s.thick),.int .i64 ((zav S ((V.getD ((zaM V n)).toNat default).s.sheet)).s.low),.int .i64 ((zav S ((V.getD ((zaM V n)).toNat default).s.sheet)).s.high),.int .i64 ((zav S ((V.getD ((zaM V n)).toNat default).s.sheet)).s.rood)] 41) 11 rfl rfl (fun _=>rfl) (fun ρ=>zex tf41 rfl rfl (vs:=[_,_,_,_,_,_,_,_,_,_,_,_,_,_,_,_,_,_,_,_]) rfl rfl rfl rfl rfl) (fun ρ ρ' h=>by(first | rfl | simp only [h 11 rfl])) ?_
   refine zbD (fun ρ=>zad rfl) (fun ρ ρ' h=>by rfl) ?_
   refine fun ρ=>zag (zf4 (X:=Nat) (ρ 11) (fun b9=>[(2,.pointer (some ⟨b2,0,none⟩)),(4,.pointer (some ⟨b4,0,none⟩)),(5,.pointer (some ⟨b5,0,none⟩)),(6,.int .i64 0),(8,.int .i64 (zaM V n)),(9,.pointer (some ⟨b9,0,none⟩))]) (fun b9=>[Box b9 [.string (zav S ((V.getD ((zaM V n)).toNat default).s.sheet)).s.name,.int .i64 ((zav S ((V.getD ((zaM V n)).toNat default).s.sheet)).s.base),.int .i64 ((zav S ((V.getD ((zaM V n)).toNat default).s.sheet)).s.batter),.int .i64 ((zav S ((V.getD ((zaM V n)).toNat default).s.sheet)).s.height),.int .i64 ((zav S ((V.getD ((zaM V n)).toNat default).s.sheet)).s.skin),.slice (zav S ((V.getD ((zaM V n)).toNat default).s.sheet)).a (zav S ((V.getD ((zaM V n)).toNat default).s.sheet)).s.heights.length (zav S ((V.getD ((zaM V n)).toNat default).s.sheet)).cap,.int .i64 ((zav S ((V.getD ((zaM V n)).toNat default).s.sheet)).s.least),.int .i64 ((zav S ((V.getD ((zaM V n)).toNat default).s.sheet)).s.lap),.int .i64 ((zav S ((V.getD ((zaM V n)).toNat default).s.sheet)).s.run),.int .i64 ((zav S ((V.getD ((zaM V n)).toNat default).s.sheet)).s.every),.int .i64 ((zav S ((V.getD ((zaM V n)).toNat default).s.sheet)).s.at_),.int .i64 ((zav S ((V.getD ((zaM V n)).toNat default).s.sheet)).s.footing),.int .i64 ((zav S ((V.getD ((zaM V n)).toNat default).s.sheet)).s.spread),.int .u8 (zav S ((V.getD ((zaM V n)).toNat default).s.sheet)).s.cope,.int .i64 ((zav S ((V.getD ((zaM V n)).toNat default).s.sheet)).s.tall),.int .i64 ((zav S ((V.getD ((zaM V n)).toNat default).s.sheet)).s.short),.int .i64 ((zav S ((V.getD ((zaM V n)).toNat default).s.sheet)).s.thick),.int .i64 ((zav S ((V.getD ((zaM V n)).toNat default).s.sheet)).s.low),.int .i64 ((zav S ((V.getD ((zaM V n)).toNat default).s.sheet)).s.high),.int .i64 ((zav S ((V.getD ((zaM V n)).toNat default).s.sheet)).s.rood)] 41,Box b5 [.string ⟨#[]⟩,.int .i64 0,.int .i64 0,.int .i64 0,.int .i64 0,.slice none 0 0,.int .i64 0,.int .i64 0,.int .i64 0,.int .i64 0,.int .i64 0,.int .i64 0,.int .i64 0,.int .u8 0,.int .i64 0,.int .i64 0,.int .i64 0,.int .i64 0,.int .i64 0,.int .i64 0] 41,Box b4 [.string ⟨#[]⟩,.string ⟨#[]⟩,.int .i64 0,.slice none 0 0] 94,Box b2 [.slice a S.length cap,.slice b V.length bcap] 31]) ⟨rfl,rfl,rfl,rfl,rfl,rfl,trivial⟩ rfl ?_)
   rintro b9
   refine zac ?_
   refine zpN (R':=Box b4 [.string (V.getD ((zaM V n)).toNat default).s.name,.string (V.getD ((zaM V n)).toNat default).s.sheet,.int .i64 ((V.getD ((zaM V n)).toNat default).s.length),.slice (V.getD ((zaM V n)).toNat default).a (V.getD ((zaM V n)).toNat default).s.opens.length (V.getD ((zaM V n)).toNat default).cap] 94) 6 [5] 2 (fun _=>mixed) rfl rfl (by kernel_rfl) rfl ?_
   refine zcf (zab zd7 rfl) ?_
   refine zcf (zah 3 tf29 rfl rfl rfl) ?_
   refine zcf (zaf rfl) ?_
   refine zcf (zaE se29 rfl rfl (fun _ hw=>(Rd.has (Has.rd hlw) hw)) (by omega) (by omega)) ?_
   refine zcf (zbv (vs:=[_,_,_,_]) tf94 rfl (fun _ hw=>(Rd.has (Has.rd hlw) hw)) (by omega) (by omega) rfl) ?_
   refine zcf (zat 0 tf41 rfl rfl (vs:=[_,_,_,_,_,_,_,_,_,_,_,_,_,_,_,_,_,_,_,_]) rfl rfl) ?_
   refine⟨zex tf94 rfl rfl (vs:=[_,_,_,_]) rfl rfl rfl rfl rfl,?_⟩
   refine zae (T':=[(4,_),(5,_),(6,_),(41,_)]) ⟨rfl,rfl,rfl,rfl,trivial⟩ ?_
   refine zbz 1 tf41 rfl rfl (vs:=[_,_,_,_,_,_,_,_,_,_,_,_,_,_,_,_,_,_,_,_]) rfl rfl rfl rfl rfl ?_
   refine gk_y rfl rfl (zad rfl) ?_
   refine zag (zae (T':=[(4,_),(5,_),(6,_)]) ⟨rfl,rfl,rfl,trivial⟩ ?_)
   refine zaw ?_
   refine zay (zdh rfl (zbU (i:=2) (vs:=[_,_,_,_]) tf94 rfl rfl rfl rfl) (zbU (i:=1) (vs:=[.string (zav S ((V.getD ((zaM V n)).toNat default).s.sheet)).s.name,.int .i64 ((zav S ((V.getD ((zaM V n)).toNat default).s.sheet)).s.base),.int .i64 ((zav S ((V.getD ((zaM V n)).toNat default).s.sheet)).s.batter),.int .i64 ((zav S ((V.getD ((zaM V n)).toNat default).s.sheet)).s.height),.int .i64 ((zav S ((V.getD ((zaM V n)).toNat default).s.sheet)).s.skin),.slice (zav S ((V.getD ((zaM V n)).toNat default).s.sheet)).a (zav S ((V.getD ((zaM V n)).toNat default).s.sheet)).s.heights.length (zav S ((V.getD ((zaM V n)).toNat default).s.sheet)).cap,.int .i64 ((zav S ((V.getD ((zaM V n)).toNat default).s.sheet)).s.least),.int .i64 ((zav S ((V.getD ((zaM V n)).toNat default).s.sheet)).s.lap),.int .i64 ((zav S ((V.getD ((zaM V n)).toNat default).s.sheet)).s.run),.int .i64 ((zav S ((V.getD ((zaM V n)).toNat default).s.sheet)).s.every),.int .i64 ((zav S ((V.getD ((zaM V n)).toNat default).s.sheet)).s.at_),.int .i64 ((zav S ((V.getD ((zaM V n)).toNat default).s.sheet)).s.footing),.int .i64 ((zav S ((V.getD ((zaM V n)).toNat default).s.sheet)).s.spread),.int .u8 (zav S ((V.getD ((zaM V n)).toNat default).s.sheet)).s.cope,.int .i64 ((zav S ((V.getD ((zaM V n)).toNat default).s.sheet)).s.tall),.int .i64 ((zav S ((V.getD ((zaM V n)).toNat default).s.sheet)).s.short),.int .i64 ((zav S ((V.getD ((zaM V n)).toNat default).s.sheet)).s.thick),.int .i64 ((zav S ((V.getD ((zaM V n)).toNat default).s.sheet)).s.low),.int .i64 ((zav S ((V.getD ((zaM V n)).toNat default).s.sheet)).s.high),.int .i64 ((zav S ((V.getD ((zaM V n)).toNat default).s.sheet)).s.rood)]) tf41 rfl rfl rfl rfl) (zau rfl)) ?_
   rw [zhF hE,zhE hE,hE,show zhq V n=V.getD (zaM V n).toNat default from if_pos h0]
end Go.Proofs.YtdcfcfhmkfkgmaaGreatDoor
namespace Go.Proofs.YtdcfcfhmkfkgmaaGreatDoor
open Go.K Go.Stn Go.Pln Go.RowKit
theorem en62:En Tryz.prog 62:=za7 Tryz.func62 (by kernel_rfl) (by kernel_rfl)
theorem en63:En Tryz.prog 63:=za7 Tryz.func63 (by kernel_rfl) (by kernel_rfl)
theorem en95:En Tryz.prog 95:=za7 Tryz.func95 (by kernel_rfl) (by kernel_rfl)
theorem en96:En Tryz.prog 96:=za7 Tryz.func96 (by kernel_rfl) (by kernel_rfl)
set_option maxRecDepth 100000 in
set_option maxHeartbeats 1000000 in
theorem zoZ (b:Option Addr) (bcap:Nat) (v:Wll) (c:Crs) (top:Int) (w:World) (hv:Has w (zaW b 5 zba v.opens)) (hF:WallF v top) (ht:top≤3000) :
  Calls Tryz.prog 63 #[.agg #[.string v.name,.string v.sheet,.int .i64 v.length,.slice b v.opens.length bcap],.agg #[.int .i64 c.frm,.int .i64 c.to]] w (zcU (fun z:Option Addr×Nat=>.slice z.1 (zbg v c).length z.2) (fun z=>Row z.1 2 z.2 69 zbq (zbg v c)) w):=by
 refine zan (vs:=[_,_]) Tryz.func63 rfl rfl (Nat.le_of_ble_eq_true rfl) ?_
 refine zac ?_
 refine zaa ?_
 refine zaG rfl rfl (za3 (vs:=[_,_,_,_]) rfl rfl) fun b2=>?_
 refine zaG rfl rfl (za3 (vs:=[_,_]) rfl rfl) fun b3=>?_
 refine gk_y rfl rfl (zad rfl) ?_
 refine zag (zae (T':=[(2,_),(3,_),(4,_)]) ⟨rfl,rfl,rfl,trivial⟩ ?_)
 refine zac ?_
 refine zaa ?_
 refine gk_y rfl rfl (zat 1 tf94 rfl rfl (vs:=[_,_,_,_]) rfl rfl) ?_
 refine gk_y rfl rfl (zbO («as»:=[]) (bs:=[_]) rfl rfl) ?_
 refine zaG rfl rfl (zbm en95 rfl (fun w hw=>zlM _ _ v top (znn c) 96 [.pointer (some ⟨b3,0,none⟩)] en96 (Box b3 [.int .i64 c.frm,.int .i64 c.to] 49) w (Rd.has (Has.rd hv) hw) hF (hw.has (p:=0) rfl) (fun o w' hm=>ztj o c b3 w' hm))) fun p7=>?_
 refine gk_y rfl rfl (zad rfl) ?_
 refine zag (zae (T':=[(4,_)]) ⟨rfl,trivial⟩ ?_)
 refine zaw ?_
 refine zbd p7 0 (zaC rfl (zau rfl)) ?_ (by rw [←zmV hF ht c]; rfl)
 rw [zmV hF ht c]
set_option maxRecDepth 100000 in
set_option maxHeartbeats 8000000 in
theorem zu1 (a:Option Addr) (cap:Nat) (S:List ShC) (b:Option Addr) (bcap:Nat) (V:List WlC) (n:ByteArray) (k:Int) (w:World) (hl:Has w (zaW a 20 zbH S)) (hs:zaP S.length) (hcS:S.length≤cap) (hlw:Has w (zaW b 4 zbS V)) (hsw:zaP V.length) (hsh:∀ z∈S,Has w (Ints z.a z.s.heights)) (hss:∀ z∈S,zaP z.s.heights.length) (hwo:∀ z∈V,Has w (zaW z.a 5 zba z.s.opens)) (hsv:∀ z∈V,zaP z.s.opens.length) (hcp:∀ z∈V,z.s.opens.length≤z.cap) (hkn:∀ z∈V,∀ o∈z.s.opens,Knd o) :
  Calls Tryz.prog 26 #[.agg #[.slice a S.length cap,.slice b V.length bcap],.string n,.int .i64 k] w (zcU (fun z:Option Addr×Nat=>.tuple #[.slice z.1 (ziX S V n k).length z.2,.int .i64 (zhJ S V n k)]) (fun z=>Row z.1 2 z.2 69 zbq (ziX S V n k)) w):=by
 refine zan (vs:=[_,_,_]) Tryz.func26 rfl rfl (Nat.le_of_ble_eq_true rfl) ?_
 refine zac ?_
 refine zaa ?_
 refine zaG rfl rfl (za3 (vs:=[_,_]) rfl rfl) fun b3=>?_
 refine gk_y rfl rfl (zad rfl) ?_
 refine gk_y rfl rfl (zad rfl) ?_
 refine zag (zae (T':=[(1,_),(2,_),(3,_),(6,_),(7,_)]) ⟨rfl,rfl,rfl,rfl,rfl,trivial⟩ ?_)
 refine zac ?_
 refine zaa ?_
 refine gk_y rfl rfl (zat 0 tf31 rfl rfl (vs:=[_,_]) rfl rfl) ?_
 refine gk_y rfl rfl (zaf rfl) ?_
 refine gk_y rfl rfl (zaJ en62 rfl (fun w hw=>zm9 _ _ S _ _ V n w (Rd.has (Has.rd hl) hw) hs hcS (Rd.has (Has.rd hlw) hw) hsw (fun z hz=>(Rd.has (Has.rd (hsh z hz)) hw)) hss (fun z hz=>(Rd.has (Has.rd (hwo z hz)) hw)) hsv hcp hkn)) ?_
 refine gk_y rfl rfl (zaf rfl) ?_
 refine gk_y rfl rfl (zaB rfl rfl) ?_
 refine gk_y rfl rfl (zaB rfl rfl) ?_
 refine gk_y rfl rfl (zaB rfl rfl) ?_
 refine zaG rfl rfl (zaL tf94 (zs:=[_,_,_,_]) rfl) fun b8=>?_
 refine zaG rfl rfl (zaL tf41 (zs:=[_,_,_,_,_,_,_,_,_,_,_,_,_,_,_,_,_,_,_,_]) rfl) fun b9=>?_
 refine zaA 1 tf94 rfl rfl (vs:=[_,_,_,_]) rfl rfl rfl rfl rfl ?_
 refine zbz 0 tf41 rfl rfl (vs:=[_,_,_,_,_,_,_,_,_,_,_,_,_,_,_,_,_,_,_,_]) rfl rfl rfl rfl rfl ?_
 refine gk_y rfl rfl (zad rfl) ?_
 refine zag (zae (T':=[(2,_),(6,_),(7,_),(8,_),(9,_),(10,_)]) ⟨rfl,rfl,rfl,rfl,rfl,rfl,trivial⟩ ?_)
 refine zac ?_
 refine zac ?_
 refine zaa ?_
 refine gk_y rfl rfl (zaf rfl) ?_
 refine gk_y rfl rfl (zcr rfl rfl) ?_
 refine zag (zae (T':=[(2,_),(6,_),(7,_),(8,_),(9,_),(10,_),(20,_)]) ⟨rfl,rfl,rfl,rfl,rfl,rfl,rfl,trivial⟩ ?_)
 refine zap rfl (fun hc20=>?_) (fun hc20=>?_)
 ·have hE:¬ zb6 S V n=0:=by simpa using hc20
  obtain⟨e1,e2⟩:=zra (k:=k) hE
  refine zbB 69 zbq 2 ?_
  refine zac ?_
  refine zaa ?_
  refine gk_y rfl rfl (zaf rfl) ?_
  refine gk_y rfl rfl (zad rfl) ?_
  refine gk_y rfl rfl (zad rfl) ?_
  refine zag (zae (T':=[(2,_),(6,_),(7,_),(8,_),(9,_)]) ⟨rfl,rfl,rfl,rfl,rfl,trivial⟩ ?_)
  refine zaw ?_
  refine zbd (none,0) 0 (zc2 rfl (zau rfl) (zau rfl)) ?_ (by rw [e2]; rfl)
  rw [e1,e2] <;> rfl
 ·have hE:zb6 S V n=0:=by simpa using hc20
  obtain⟨m1,m2,hsp,hF⟩:=zfu hE
  have hnm:=zaZ hsp
  have htop:=hnm.height
  refine zaq ?_
  refine zac ?_
  refine zaa ?_
  refine gk_y rfl rfl (zat 0 tf41 rfl rfl (vs:=[_,_,_,_,_,_,_,_,_,_,_,_,_,_,_,_,_,_,_,_]) rfl rfl) ?_
  refine zaG rfl rfl (zbm en49 rfl (fun w hw=>ze3 ((zar S V n).a) ((zar S V n).cap) ((zar S V n).s) w (Rd.has (Has.rd (zhG hsh)) hw) hnm)) fun p23=>?_
  refine gk_y rfl rfl (zad rfl) ?_
  refine zag (zae (T':=[(2,_),(6,_),(7,_),(8,_),(11,_)]) ⟨rfl,rfl,rfl,rfl,rfl,trivial⟩ ?_)
  refine zac ?_
  refine zac ?_
  refine zbb 8 (fun _=>mixed) (by kernel_rfl) ?_
  refine ph_y (zaf rfl) ?_
  refine ph_y (zbw rfl rfl) ?_
  refine ph_y (zaf rfl) ?_
  refine zaz rfl rfl (fun hgd=>by(try rw [hgd]); exact(zaf rfl)) ?_
  refine zaz rfl rfl (fun hgd=>by(try rw [hgd]); exact(zaf rfl)) ?_
  refine zaz rfl rfl (fun hgd=>by(try rw [hgd]); exact(zaV (Tryz.underlying38) rfl)) ?_
  refine zaz rfl rfl (fun hgd=>by(try rw [hgd]); exact(zfx rfl rfl)) ?_
  refine ph_y (zaR rfl rfl rfl) ?_
  refine zag (zae (T':=[(2,_),(6,_),(7,_),(8,_),(11,_),(31,_)]) ⟨rfl,rfl,rfl,rfl,rfl,rfl,trivial⟩ ?_)
  refine zap rfl (fun hc31=>?_) (fun hc31=>?_)
  ·obtain⟨e1,e2⟩:=zoX (k:=k) hE (by simpa only [Bool.or_eq_true,decide_eq_true_eq] using hc31)
   refine zbB 69 zbq 2 ?_
   refine zac ?_
   refine zaa ?_
   refine gk_y rfl rfl (zad rfl) ?_
   refine gk_y rfl rfl (zad rfl) ?_
   refine zag (zae (T':=[(2,_),(6,_),(7,_),(8,_),(11,_)]) ⟨rfl,rfl,rfl,rfl,rfl,trivial⟩ ?_)
   refine zaw ?_
   refine zbd (none,0) 0 (zc2 rfl (zau rfl) (zau rfl)) ?_ (by rw [e2]; rfl)
   rw [e1,e2] <;> rfl
  ·have hk:¬ (k < 0∨((zaj (zar S V n).s).length:Int)≤k):=by simp only [Bool.or_eq_false_iff,decide_eq_false_iff_not] at hc31; omega
   obtain⟨e1,e2⟩:=zmT (k:=k) hE hk
   refine zaq ?_
   refine zac ?_
   refine zbb 6 (fun _=>mixed) (by kernel_rfl) ?_
   refine ph_y (zat 2 tf94 rfl rfl (vs:=[_,_,_,_]) rfl rfl) ?_
   refine ph_y (zaf rfl) ?_
   refine ph_y (zaf rfl) ?_
   refine ph_y (zaE se38 rfl rfl (fun _ hw=>(zam zax (hw.has (p:=0) rfl))) (by omega) (by omega)) ?_
   refine ph_y (zbv (vs:=[_,_]) tf49 rfl (fun _ hw=>(zam zax (hw.has (p:=0) rfl))) (by omega) (by omega) rfl) ?_
   refine zmr (zbm en63 rfl (fun w hw=>zoZ _ _ (zaN S V n).s ((zaj (zar S V n).s).getD k.toNat default) _ w (Rd.has (Has.rd (zfL hwo)) hw) hF (by omega))) ?_
   intro p37
   refine zae (T':=[(6,_),(7,_),(37,_)]) ⟨rfl,rfl,rfl,trivial⟩ ?_
   refine gk_y rfl rfl (zad rfl) ?_
   refine gk_y rfl rfl (zad rfl) ?_
   refine zag (zae (T':=[(6,_),(7,_)]) ⟨rfl,rfl,trivial⟩ ?_)
   refine zaw ?_
   refine zbd p37 0 (zc2 rfl (zau rfl) (zau rfl)) ?_ (by rw [e2]; rfl)
   rw [e1,e2] <;> rfl
end Go.Proofs.YtdcfcfhmkfkgmaaGreatDoor