/- What the proof of the root text leans on, part 4: the layer, plain facts and walks. No statement of the seat is proved in this text. -/
import Derived.Test.YtdcfcfhmkfkgmaaGreatDoorPr3
namespace Go.Proofs.YtdcfcfhmkfkgmaaGreatDoor
open Go.K Go.Stn Go.Pln Go.RowKit
theorem zxd:En Tryz.prog 135:=za7 Tryz.func135 (by kernel_rfl) (by kernel_rfl)
theorem zxi:En Tryz.prog 151:=za7 Tryz.func151 (by kernel_rfl) (by kernel_rfl)
theorem zww (s sep:ByteArray) (w:World) (hs:s.size < 4294967281) (hm:Has w (IntV 2)):Calls Tryz.prog 86 #[.string s,.string sep] w (Pure (cutV s sep) w):=zrk Tryz.lays145 s sep w hs hm
theorem zuJ (s:ByteArray) (c:UInt8) (w:World) (hs:s.size < 4294967281) (hm:Has w (IntV 2)):Calls Tryz.prog 88 #[.string s,.string ⟨#[c]⟩] w (zcU (fun b:Nat=>.slice (some ⟨b,0,none⟩) (zcn s c).length (zcn s c).length) (fun b=>Row (some ⟨b,0,none⟩) 1 (zcn s c).length 9 encS (zcn s c)) w):=zmD Tryz.lays146 (by kernel_rfl) s c w hs hm
theorem zu3 (s:ByteArray) (w:World) (h:numW s=true):Calls Tryz.prog 134 #[.string s] w (Pure (.tuple #[.int .i64 (zdO s),.nilIface]) w):=by
 have hs:=zrP h
 refine(Go.Proofs.Any.strconv_Atoi_ok Tryz.laysC172 s (by omega) (zdO s) (zoV h).1 w).mono ?_
 rintro e w' ⟨rfl,hw⟩
 refine⟨rfl,?_⟩
 rcases hw with rfl | ⟨t,rfl⟩
 ·exact Ext.rfl
 ·exact ziY _ _ _
set_option maxRecDepth 100000 in
set_option maxHeartbeats 1000000 in
theorem zoj (s:ByteArray) (w:World)  :
  Calls Tryz.prog 133 #[.string s] w (Pure (.bool (numW s)) w):=by
 refine zan (vs:=[_]) Tryz.func133 rfl rfl (Nat.le_of_ble_eq_true rfl) ?_
 refine zac ?_
 refine zaa ?_
 refine gQ (zad rfl) ?_
 refine zag (zae (T':=[(0,_),(2,_)]) ⟨rfl,rfl,trivial⟩ ?_)
 refine zac ?_
 refine zaa ?_
 refine gQ (zad rfl) ?_
 refine zag (zae (T':=[(0,_),(2,_),(3,_)]) ⟨rfl,rfl,rfl,trivial⟩ ?_)
 refine zac ?_
 refine zbb 23 (fun _=>mixed) (by kernel_rfl) ?_
 refine ph_y (zaf rfl) ?_
 refine ph_y (ziV rfl rfl) ?_
 refine ph_y (zaf rfl) ?_
 refine zaH rfl rfl (fun hgd=>by(try rw [hgd]); (try have hgd2:=zcZ hgd); exact(zaf rfl)) ?_
 refine zaH rfl rfl (fun hgd=>by(try rw [hgd]); (try have hgd2:=zcZ hgd); exact(zeO (Tryz.underlying9) rfl)) ?_
 refine zaH rfl rfl (fun hgd=>by(try rw [hgd]); (try have hgd2:=zcZ hgd); exact(zeT rfl rfl)) ?_
 refine ph_y (zaX rfl rfl rfl) ?_
 refine ph_y (zaf rfl) ?_
 refine zaH rfl rfl (fun hgd=>by(try rw [hgd]); (try have hgd2:=zcZ hgd); exact(zaf rfl)) ?_
 refine zaH rfl rfl (fun hgd=>by(try rw [hgd]); (try have hgd2:=zcZ hgd); exact(zaf rfl)) ?_
 refine zaH rfl rfl (fun hgd=>by(try rw [hgd]); (try have hgd2:=zcZ hgd); exact(zaJ (v:=.bool (decide (0≤zcj oddN s 0))) en83 rfl (fun w hw=>ziD s oddN _ [] w (fun _=>True) (fun _ _=>trivial) zxi (fun r w _=>zmg r w)))) ?_
 refine zaH rfl rfl (fun hgd=>by(try rw [hgd]); (try have hgd2:=zcZ hgd); exact(zbR rfl)) ?_
 refine ph_y (zaX rfl rfl rfl) ?_
 refine ph_y (zaf rfl) ?_
 refine zaH rfl rfl (fun hgd=>by(try rw [hgd]); (try have hgd2:=zcZ hgd); exact(zaf rfl)) ?_
 refine zaH rfl rfl (fun hgd=>by(try rw [hgd]); (try have hgd2:=zcZ hgd); exact(zdM (Tryz.underlying9) rfl rfl (by omega) (by omega))) ?_
 refine zaH rfl rfl (fun hgd=>by(try rw [hgd]); (try have hgd2:=zcZ hgd); exact(zcr rfl rfl)) ?_
 refine zaH rfl rfl (fun hgd=>by(try rw [hgd]); (try have hgd2:=zcZ hgd); exact(zaf rfl)) ?_
 refine zc0 rfl rfl (fun hgd=>by(try rw [hgd]); (try have hgd2:=zcZ hgd); exact(zaf rfl)) ?_
 refine zc0 rfl rfl (fun hgd=>by(try rw [hgd]); (try have hgd2:=zcZ hgd); exact(zge rfl rfl)) ?_
 refine zaH rfl rfl (fun hgd=>by(try rw [hgd]); (try have hgd2:=zcZ hgd); exact(zaR rfl rfl rfl)) ?_
 refine ph_y (zaX rfl rfl rfl) ?_
 refine ph_y (zad rfl) ?_
 refine zag (zae (T':=[(2,_)]) ⟨rfl,trivial⟩ ?_)
 refine zaw ?_
 refine zay (zaC rfl (zau rfl)) ?_
 rfl
set_option maxRecDepth 100000 in
set_option maxHeartbeats 1000000 in
theorem zt5 (a:Option Addr) (cap:Nat) (l:List ByteArray) (v:ByteArray) (w:World) (hl:Has w (zaW a 1 encS l)) (hs:zaP l.length) :
  Calls Tryz.prog 135 #[.slice a l.length cap,.string v] w (Pure (.int .i64 (zbJ (fun y=>v.toList == y.toList) l)) w):=by
 refine zan (vs:=[_,_]) Tryz.func135 rfl rfl (Nat.le_of_ble_eq_true rfl) ?_
 refine zac ?_
 refine zaa ?_
 refine gQ (zad rfl) ?_
 refine zag (zae (T':=[(0,_),(1,_),(4,_)]) ⟨rfl,rfl,rfl,trivial⟩ ?_)
 refine zac ?_
 refine zac ?_
 refine zaa ?_
 refine gQ (zaf rfl) ?_
 refine gQ (zaV (Tryz.underlying124) rfl) ?_
 refine gQ (zaf rfl) ?_
 refine zag (zae (T':=[(0,_),(1,_),(4,_),(7,_),(8,_)]) ⟨rfl,rfl,rfl,rfl,rfl,trivial⟩ ?_)
 refine zas ?_
 refine zbf (X:=Int) (fun(i:Int)=>[(0,.slice a l.length cap),(1,.string v),(4,.int .i64 0),(7,.int .i64 (l.length:Int)),(8,.int .i64 i)]) (fun(i:Int)=>[]) (fun(i:Int)=>(0≤i∧i≤l.length∧∀ j:Nat,(j:Int) < i→(v.toList == (l.getD j default).toList)=false)) (fun(i:Int)=>(l.length - i).toNat) 0 ⟨rfl,rfl,rfl,rfl,rfl,trivial⟩ rfl ?_ ?_
 ·exact⟨by omega,by omega,fun j hj=>by omega⟩
 ·rintro i hI
  obtain⟨g0,g1,g2⟩:=hI
  refine zac ?_
  refine zaa ?_
  refine gQ (zbw rfl rfl) ?_
  refine zag (zae (T':=[(0,_),(1,_),(4,_),(7,_),(8,_),(9,_)]) ⟨rfl,rfl,rfl,rfl,rfl,rfl,trivial⟩ ?_)
  refine zac ?_
  refine zap rfl (fun hc9=>?_) (fun hc9=>?_)
  ·simp only [decide_eq_true_eq] at hc9
   refine zaq ?_
   refine zac ?_
   refine zas ?_
   refine zac ?_
   refine zaa ?_
   refine gQ (zaf rfl) ?_
   refine gQ (zad rfl) ?_
   refine zag (zae (T':=[(0,_),(1,_),(4,_),(5,_),(7,_),(8,_)]) ⟨rfl,rfl,rfl,rfl,rfl,rfl,trivial⟩ ?_)
   refine zac ?_
   refine zaa ?_
   refine gQ (zaf rfl) ?_
   refine gQ (zaf rfl) ?_
   refine gQ (zaf rfl) ?_
   refine gQ (zaE zqJ rfl rfl (fun _ hw=>(Rd.has (Has.rd hl) hw)) (by omega) (by omega)) ?_
   refine gQ (zcE tf9 rfl (fun _ hw=>(Rd.has (Has.rd hl) hw)) (by omega) (by omega) rfl) ?_
   refine gQ (zge rfl rfl) ?_
   refine zag (zae (T':=[(0,_),(1,_),(4,_),(5,_),(7,_),(8,_),(16,_)]) ⟨rfl,rfl,rfl,rfl,rfl,rfl,rfl,trivial⟩ ?_)
   refine zap rfl (fun hc16=>?_) (fun hc16=>?_)
   ·
    refine zac ?_
    refine zaa ?_
    refine gQ (zaf rfl) ?_
    refine gQ (zad rfl) ?_
    refine zag (zae (T':=[(0,_),(1,_),(4,_),(7,_),(8,_)]) ⟨rfl,rfl,rfl,rfl,rfl,trivial⟩ ?_)
    refine zaw ?_
    refine zay (zaC rfl (zau rfl)) ?_
    exact congrArg (fun x=>Value.int .i64 x) (zcs (p:=fun y:ByteArray=>v.toList == y.toList) g0 (by omega) g2 hc16).symm
   ·
    refine zaq ?_
    refine zaa ?_
    refine gQ (zaY rfl rfl (by omega) (by omega)) ?_
    refine gQ (zaf rfl) ?_
    refine zag (zae (T':=[(0,_),(1,_),(4,_),(7,_),(8,_)]) ⟨rfl,rfl,rfl,rfl,rfl,trivial⟩ ?_)
    exact za1 _ ⟨rfl,rfl,rfl,rfl,rfl,trivial⟩ rfl ⟨by omega,by omega,fun j hj=>if h:(j:Int) < i then g2 j h else(by rw [show j=i.toNat from by omega]; exact hc16)⟩ (by omega)
  ·simp only [decide_eq_false_iff_not] at hc9
   refine za8 rfl ?_
   refine zac ?_
   refine zaa ?_
   refine gQ (zad rfl) ?_
   refine zag (zae (T':=[(4,_)]) ⟨rfl,trivial⟩ ?_)
   refine zaw ?_
   refine zay (zaC rfl (zau rfl)) ?_
   exact congrArg (fun x=>Value.int .i64 x) (zck (p:=fun y:ByteArray=>v.toList == y.toList) (fun j hj=>g2 j (by omega))).symm
set_option maxRecDepth 100000 in
set_option maxHeartbeats 1000000 in
theorem zsX (r:Nat) (ws:List ByteArray) (a:Option Addr) (cap:Nat) (l:List ByteArray) (f:Nat) (w:World) (B:Nat→Prop) (hB:∀ k,B k→k < w.heap.size) (hA:(Rdr 161 r ws).A B w) (hl:Rd (fun k=>k < w.heap.size∧¬ B k) w (zaW a 1 encS l)) (hs:l.length≤200) (hcap:l.length≤cap) (hf:f≤l.length) :
  Calls Tryz.prog 116 #[.pointer (some ⟨r,0,none⟩),.slice a l.length cap,.int .i64 (f:Int)] w (zej 33 (zfk l f ws) (fun x (_:Unit)=>.int .u8 x.1) (fun x _=>Rdr 161 r x.2) B w):=by
 refine zby hB hA (vs:=[_,_,_]) Tryz.func116 rfl rfl (Nat.le_of_ble_eq_true rfl) ?_
 refine zac ?_
 refine zaa ?_
 refine gQ (zad rfl) ?_
 refine zag (zae (T':=[(0,_),(1,_),(2,_),(6,_)]) ⟨rfl,rfl,rfl,rfl,trivial⟩ ?_)
 refine zac ?_
 refine zjX (Z:={ z:(ByteArray×List ByteArray)×Unit // zdp ws=.ok z.1 }) (V:=fun z=>.string z.1.1.1) (R':=fun z=>Rdr 161 r z.1.1.2) (Bad:=fun ch=>∃ k,zdp ws=.error k∧ch=thrC (errT 33 k)) 4 [0,1,2] 0 12 (fun _=>mixed) rfl rfl (by kernel_rfl) rfl ?_ rfl ?_
 ·rintro _ ⟨k,hk12,rfl⟩
  exact za6 (by rw [zfk,hk12]; rfl)
 refine zcf (zaf rfl) ?_
 refine zcf (zaf rfl) ?_
 refine zcf (zg9 zqJ rfl rfl (by omega) (by omega)) ?_
 refine zcf (zaf rfl) ?_
 refine⟨(zrf (M:=Unit) (te:=33) (res:=zdp ws) (V:=fun x _=>.string x.1) (J:=fun x _=>Rdr 161 r x.2) en90 rfl (fun w B hB hA=>zli r ws w B hB hA)),?_⟩
 rintro ⟨⟨x12,m12⟩,hx12⟩
 replace hx12:zdp ws=.ok x12:=hx12
 refine zae (T':=[(2,_),(6,_),(10,_),(12,_)]) ⟨rfl,rfl,rfl,rfl,trivial⟩ ?_
 refine gQ (zaJ zxd rfl (fun w hw=>zt5 _ _ _ x12.1 w (zoc (Rd.has hl hw) hcap (by omega)) (by rw [List.length_drop]; unfold zaP; omega))) ?_
 refine gQ (zad rfl) ?_
 refine zag (zae (T':=[(2,_),(6,_),(7,_)]) ⟨rfl,rfl,rfl,trivial⟩ ?_)
 refine zac ?_
 refine zac ?_
 refine zaa ?_
 refine gQ (zaf rfl) ?_
 refine gQ (zbw rfl rfl) ?_
 refine zag (zae (T':=[(2,_),(6,_),(7,_),(15,_)]) ⟨rfl,rfl,rfl,rfl,trivial⟩ ?_)
 refine zap rfl (fun hc15=>?_) (fun hc15=>?_)
 ·have h15:=of_decide_eq_true hc15
  refine zaa ?_
  refine zcg en91 rfl (fun w hw=>zdk _ w) ?_
  exact za6 (by rw [zfk,hx12,zak]; exact if_pos h15)
 ·have h15:=of_decide_eq_false hc15
  have hlt:=findI_lt (fun y=>x12.1.toList == y.toList) (l.drop (f:Int).toNat)
  rw [List.length_drop] at hlt
  refine zaq ?_
  refine zac ?_
  refine zaa ?_
  refine gQ (zaf rfl) ?_
  refine gQ (zaf rfl) ?_
  refine gQ (zaY rfl rfl (by omega) (by omega)) ?_
  refine gQ (ziU (by kernel_rfl) (Tryz.underlying5) rfl) ?_
  refine gQ (zad rfl) ?_
  refine zag (zae (T':=[(6,_)]) ⟨rfl,trivial⟩ ?_)
  refine zaw ?_
  exact zdm ((zbJ (fun y=>x12.1.toList == y.toList) (l.drop (f:Int).toNat))+f,x12.2) () 0 (zaC rfl (zau rfl)) (congrArg (fun x=>Value.int .u8 x) (zwr (n:=(zbJ (fun y=>x12.1.toList == y.toList) (l.drop (f:Int).toNat))+(f:Int)) (by omega) (by omega))) rfl (by rw [zfk,hx12,zak]; exact if_neg h15)
end Go.Proofs.YtdcfcfhmkfkgmaaGreatDoor
namespace Go.K
open Go Go.RowKit
section
variable {c:Cx} {ds:List Deferred} {p:Post} {T:List (Nat×Value)} {H:List Res} {ops:Array Oper} {rest:List Oper} {ty:TypeId} {ps:String} {af:Array Edge} {x y:Operand}
theorem zpS {t:TypeId} {gg:Bool} {b o:Nat} {z v:Value} {cs:List Value} {e:TypeId} (i:Nat) (ht:TF c.P t gg 1 z) (hx:evo T x=some (.pointer (some ⟨b,o,none⟩))) (hy:evo T y=some v)
  (hv:v.cells=#[v]) (h1:zgS v=true) (hi:H[i]?=some (Box b cs e)) (ho:o < cs.length)
  (kk:GK c ds (KL c ops p rest) T (H.set i (Box b (cs.set o v) e))):GK c ds (KL c ops p (⟨none,.store t x y,ty,ps,af,none⟩ :: rest)) T H:=
 zaA i ht hx hy (vs:=[v]) hv rfl (by simp [h1]) hi (Nat.ble_eq_true_of_le ho) kk
end
section
variable {c:Cx} {T:List (Nat×Value)} {H H':List Res} {R:Ending→World→Prop} {fn:Func}
theorem zgW {g:FuncId} {cap:List Value} {v:Value} (he:En c.P g)
  (hc:∀ w,Hp c.U c.w0 H w→CallsDIn Fence.wide 0 c.P g cap.toArray .returning w (fun e u' w'=>(∃ v,e=.returned v)∧settle u' = .returning∧Hp c.U c.w0 H' w'))
  (hv:RV c [] T H' fn v) (h:∀ w,Hp c.U c.w0 H' w→R (.returned v) w):GK c [{ target:=.fn (.func g) cap.toArray,args:=#[] }] (RetP c.P fn R) T H:=by
 intro a w ha hw
 show LeavesInM Fence.wide 0 c.P fn a.tmps R a.defers .returning w
 rw [ha.defers]
 refine zjn he (by simp) (CallsDIn.mono (hc w hw) ?_)
 rintro e u' w' ⟨hr,hs,hx⟩
 exact⟨hr,hs,v,hv { a with defers:=[] } w' ⟨ha.size,ha.val,rfl⟩ hx,h w' hx⟩
end
end Go.K
namespace Go.Proofs.YtdcfcfhmkfkgmaaGreatDoor
open Go.K Go.Stn Go.Pln Go.RowKit
theorem zi1:TF Tryz.prog 158 false 1 (.pointer none):=⟨by kernel_rfl,by kernel_rfl⟩
theorem zxE:TF Tryz.prog 186 false 1 (.pointer none):=⟨by kernel_rfl,by kernel_rfl⟩
theorem zxx:SE Tryz.prog 206 186 1:=⟨Tryz.underlying206,by kernel_rfl⟩
theorem zpl:En Tryz.prog 114:=za7 Tryz.func114 (by kernel_rfl) (by kernel_rfl)
theorem ztI:En Tryz.prog 132:=za7 Tryz.func132 (by kernel_rfl) (by kernel_rfl)
theorem zxb:En Tryz.prog 133:=za7 Tryz.func133 (by kernel_rfl) (by kernel_rfl)
theorem zxc:En Tryz.prog 134:=za7 Tryz.func134 (by kernel_rfl) (by kernel_rfl)
theorem zpK {l:List Nat} {i:Nat} (h:i < l.length):l.getD i 0∈l:=by simp [h]
set_option maxRecDepth 100000 in
set_option maxHeartbeats 1000000 in
theorem zfl (r:Nat) (ws:List ByteArray) (b:Nat) (cs:List Value) (t:TypeId) (os:List Nat) (ps:List (Nat×Nat)) (a:Option Addr) (cap:Nat) (w:World) (B:Nat→Prop) (hB:∀ k,B k→k < w.heap.size) (hA:(SepR [Rdr 161 r ws,Box b cs t]).A B w) (hl:Rd (fun k=>k < w.heap.size∧¬ B k) w (zaW a 1 zhZ ps)) (hps:ps=os.map (fun o=>(b,o))) (ho:∀ o∈os,o < cs.length) (hs:zaP ps.length) :
  Calls Tryz.prog 114 #[.pointer (some ⟨r,0,none⟩),.slice a ps.length cap] w (zej 33 (zco os.length ws) (fun _x (_:Unit)=>.tuple #[]) (fun x _=>SepR [Rdr 161 r x.2,Box b (zlz cs os x.1) t]) B w):=by
 have hlen:ps.length=os.length:=by rw [hps,List.length_map]
 refine zby hB hA (vs:=[_,_]) Tryz.func114 rfl rfl (Nat.le_of_ble_eq_true rfl) ?_
 refine zbP ?_
 refine zac ?_
 refine zaa ?_
 refine gQ (zaf rfl) ?_
 refine gQ (zaV (Tryz.underlying206) rfl) ?_
 refine gQ (zaf rfl) ?_
 refine zag (zae (T':=[(0,_),(7,_),(8,_),(9,_)]) ⟨rfl,rfl,rfl,rfl,trivial⟩ ?_)
 refine zas ?_
 refine zbf (X:=Int×List ByteArray×List Value) (fun⟨i,us,ds⟩=>[(0,.pointer (some ⟨r,0,none⟩)),(7,.slice a ps.length cap),(8,.int .i64 (ps.length:Int)),(9,.int .i64 i)]) (fun⟨i,us,ds⟩=>[Rdr 161 r us,Box b ds t]) (fun⟨i,us,ds⟩=>(0≤i∧i≤ps.length∧ds.length=cs.length∧putE (os.drop i.toNat) ds us=putE os cs ws)) (fun⟨i,us,ds⟩=>(ps.length - i).toNat) (0,ws,cs) ⟨rfl,rfl,rfl,rfl,trivial⟩ rfl ?_ ?_
 ·exact⟨by omega,by omega,rfl,rfl⟩
 ·rintro ⟨i,us,ds⟩ hI
  obtain⟨g0,g1,g2,g3⟩:=hI
  refine zac ?_
  refine zaa ?_
  refine gQ (zbw rfl rfl) ?_
  refine zag (zae (T':=[(0,_),(7,_),(8,_),(9,_),(10,_)]) ⟨rfl,rfl,rfl,rfl,rfl,trivial⟩ ?_)
  refine zac ?_
  refine zap rfl (fun hc10=>?_) (fun hc10=>?_)
  ·have hc10:=of_decide_eq_true hc10
   refine zaq ?_
   refine zac ?_
   refine zas ?_
   refine zac ?_
   refine zaa ?_
   refine gQ (zaE zxx rfl rfl (fun _ hw=>(Rd.has hl hw)) (by omega) (by omega)) ?_
   refine gQ (zcE zxE rfl (fun _ hw=>(Rd.has hl hw)) (by omega) (by omega) rfl) ?_
   refine gQ (zad rfl) ?_
   refine zag (zae (T':=[(0,_),(5,_),(7,_),(8,_),(9,_)]) ⟨rfl,rfl,rfl,rfl,rfl,trivial⟩ ?_)
   have hg5:ps.getD i.toNat default=(b,os.getD i.toNat 0):=by rw [hps]; exact ztP g0 (by omega)
   refine zae (T':=[(0,_),(5,.pointer (some ⟨b,os.getD i.toNat 0,none⟩)),(7,_),(8,_),(9,_)]) ⟨rfl,(by show some (Value.pointer (some ⟨(ps.getD i.toNat default).1,(ps.getD i.toNat default).2,none⟩))=_; rw [hg5]),rfl,rfl,rfl,trivial⟩ ?_
   refine zac ?_
   refine zaa ?_
   refine gQ (zaf rfl) ?_
   refine zbZ (res:=zdp us) 0 en90 rfl rfl rfl (fun w B hF=>zli r us w B (fun k hk=>(hF.own k hk).2) hF.A) (fun k hk14=>?_) (fun x14 m14 hx14=>?_)
   ·
    exact za6 (zqt (by rw [←g3,zkh g0 (by omega),ziy,numE,hk14]; rfl))
   refine gQ (zad rfl) ?_
   refine zag (zae (T':=[(0,_),(5,_),(6,_),(7,_),(8,_),(9,_)]) ⟨rfl,rfl,rfl,rfl,rfl,rfl,trivial⟩ ?_)
   refine zac ?_
   refine zac ?_
   refine zaa ?_
   refine gQ (zaf rfl) ?_
   refine gQ (zaJ zxb rfl (fun w hw=>zoj _ w)) ?_
   refine gQ (zbR rfl) ?_
   refine zag (zae (T':=[(0,_),(5,_),(6,_),(7,_),(8,_),(9,_),(17,_)]) ⟨rfl,rfl,rfl,rfl,rfl,rfl,rfl,trivial⟩ ?_)
   refine zap rfl (fun hc17=>?_) (fun hc17=>?_)
   ·have h17:¬ numW x14.1=true:=by simpa using hc17
    refine zaa ?_
    refine zcg en91 rfl (fun w hw=>zdk _ w) ?_
    exact za6 (zqt (by rw [←g3,zkh g0 (by omega),ziy,numE,hx14,zak,if_neg h17]; rfl))
   ·have h17:numW x14.1=true:=by simpa using hc17
    refine zaq ?_
    refine zaa ?_
    refine gQ (zaf rfl) ?_
    refine gQ (zaf rfl) ?_
    refine gQ (zaJ zxc rfl (fun w hw=>zu3 _ w (by assumption))) ?_
    refine gQ (zaf rfl) ?_
    refine gQ (zaB rfl rfl) ?_
    refine gQ (zaB rfl rfl) ?_
    refine gQ (zbx rfl) ?_
    refine zpS 1 tf3 rfl rfl rfl rfl rfl (by rw [g2]; exact ho _ (zpK (by omega))) ?_
    refine zag (zae (T':=[(0,_),(7,_),(8,_),(9,_)]) ⟨rfl,rfl,rfl,rfl,trivial⟩ ?_)
    refine zaa ?_
    refine gQ (zaY rfl rfl (by omega) (by omega)) ?_
    refine gQ (zaf rfl) ?_
    refine zag (zae (T':=[(0,_),(7,_),(8,_),(9,_)]) ⟨rfl,rfl,rfl,rfl,trivial⟩ ?_)
    exact za1 (i+1,x14.2,_) ⟨rfl,rfl,rfl,rfl,trivial⟩ rfl ⟨by omega,by omega,by rw [List.length_set,g2],by rw [←g3,zkh g0 (by omega),ziy,numE,hx14,zak,if_pos h17]; rfl⟩ (by simp only []; omega)
  ·have hc10:=of_decide_eq_false hc10
   refine za8 rfl ?_
   obtain⟨l,hl1,hl2⟩:=zwf (os:=os) (cs:=cs) (ws:=ws) (cs':=ds) (ws':=us) (by rw [←g3,List.drop_of_length_le (by omega),zr5])
   refine zbT 2 ?_
   exact zdm (l,us) () 0 (zcN rfl) rfl (by rw [hl2]; rfl) hl1
set_option maxRecDepth 100000 in
set_option maxHeartbeats 1000000 in
theorem ziv (r:Nat) (ws:List ByteArray) (b:Nat) (cs:List Value) (t:TypeId) (os:List Nat) (ps:List (Nat×Nat)) (a:Option Addr) (cap:Nat) (u:ByteArray) (br:Nat) (w:World) (B:Nat→Prop) (hB:∀ k,B k→k < w.heap.size) (hA:(SepR [Rdr 161 r ws,Box b cs t]).A B w) (hl:Rd (fun k=>k < w.heap.size∧¬ B k) w (zaW a 1 zhZ ps)) (hps:ps=os.map (fun o=>(b,o))) (ho:∀ o∈os,o < cs.length) (hs:zaP ps.length) (hb:Rd (fun k=>k < w.heap.size∧¬ B k) w (Box br [.pointer (some ⟨r,0,none⟩)] 158)) :
  Calls Tryz.prog 131 #[.string u,.slice a ps.length cap,.pointer (some ⟨br,0,none⟩)] w (zej 33 (oneE u os.length ws) (fun _x (_:Unit)=>.tuple #[]) (fun x _=>SepR [Rdr 161 r x.2,Box b (zlz cs os x.1) t]) B w):=by
 refine zby hB hA (vs:=[_,_,_]) Tryz.func131 rfl rfl (Nat.le_of_ble_eq_true rfl) ?_
 refine zbP ?_
 refine zac ?_
 refine zaa ?_
 refine gQ (zbW zi1 rfl (fun _ hw=>zaQ (Rd.has hb hw) rfl)) ?_
 refine gQ (zaf rfl) ?_
 refine zbZ (res:=sayE u ws) 0 ztI rfl rfl rfl (fun w B hF=>zuG r ws u w B (fun k hk=>(hF.own k hk).2) hF.A) (fun k hk7=>?_) (fun x7 m7 hx7=>?_)
 ·
  exact za6 (by rw [oneE,hk7]; first | done | rfl)
 refine zag (zae (T':=[(1,_),(2,_)]) ⟨rfl,rfl,trivial⟩ ?_)
 refine zaa ?_
 refine gQ (zbW zi1 rfl (fun _ hw=>zaQ (Rd.has hb hw) rfl)) ?_
 refine gQ (zaf rfl) ?_
 refine zao 1 rfl ?_
 refine zao 1 rfl ?_
 refine zbT 2 ?_
 refine zbZ 0 zpl rfl rfl rfl (fun w B hF=>zfl r x7.2 b cs t os ps _ _ w B (fun k hk=>(hF.own k hk).2) hF.A (hF.rd hl) hps ho hs) (fun k hk10=>?_) (fun x10 m10 hx10=>?_)
 ·
  exact za6 (by rw [oneE,hx7,zak,hk10]; first | done | rfl)
 refine zag (zae (T':=[]) trivial ?_)
 exact zdm x10 () 0 (zcN rfl) rfl rfl (by rw [oneE,hx7,zak,hx10])
end Go.Proofs.YtdcfcfhmkfkgmaaGreatDoor
namespace Go.Proofs.YtdcfcfhmkfkgmaaGreatDoor
open Go.K Go.Stn Go.Pln Go.RowKit
theorem zxu:SA Tryz.prog 137 9 4 1:=⟨Tryz.underlying137,by kernel_rfl⟩
theorem af35:AF Tryz.prog 35 3 1 8 [.int IntKind.i64 0]:=⟨Tryz.underlying35,by kernel_rfl,rfl⟩
theorem ztG:En Tryz.prog 113:=za7 Tryz.func113 (by kernel_rfl) (by kernel_rfl)
theorem zvS:En Tryz.prog 116:=za7 Tryz.func116 (by kernel_rfl) (by kernel_rfl)
theorem zhY:En Tryz.prog 131:=za7 Tryz.func131 (by kernel_rfl) (by kernel_rfl)
theorem ztm (x0:ByteArray) (w:World):(Instr.build 41 #[(0,.string x0)]).run Tryz.prog w=.ok (.agg #[.string x0,.int IntKind.i64 0,.int IntKind.i64 0,.int IntKind.i64 0,.int IntKind.i64 0,.slice none 0 0,.int IntKind.i64 0,.int IntKind.i64 0,.int IntKind.i64 0,.int IntKind.i64 0,.int IntKind.i64 0,.int IntKind.i64 0,.int IntKind.i64 0,.int IntKind.u8 0,.int IntKind.i64 0,.int IntKind.i64 0,.int IntKind.i64 0,.int IntKind.i64 0,.int IntKind.i64 0,.int IntKind.i64 0]) w:=by kernel_rfl
theorem zo0 (x0_0:Int) (w:World):(Instr.buildSlice 35 1 #[(0,.int .i64 x0_0)]).run Tryz.prog w=.ok (.slice (some ⟨w.heap.size,0,none⟩) 1 1) (w.alloc (.cells (([x0_0]:List (Int)).flatMap Go.Stn.encI).toArray 3)):=by kernel_rfl
theorem zed (x0:Nat×Nat) (w:World):(Instr.buildSlice 206 1 #[(0,.pointer (some ⟨x0.1,x0.2,none⟩))]).run Tryz.prog w=.ok (.slice (some ⟨w.heap.size,0,none⟩) 1 1) (w.alloc (.cells (([x0]:List (Nat×Nat)).flatMap zhZ).toArray 186)):=by kernel_rfl
theorem zlT (x0:Nat×Nat) (x1:Nat×Nat) (w:World):(Instr.buildSlice 206 2 #[(0,.pointer (some ⟨x0.1,x0.2,none⟩)),(1,.pointer (some ⟨x1.1,x1.2,none⟩))]).run Tryz.prog w=.ok (.slice (some ⟨w.heap.size,0,none⟩) 2 2) (w.alloc (.cells (([x0,x1]:List (Nat×Nat)).flatMap zhZ).toArray 186)):=by kernel_rfl
theorem ztr (x0:Nat×Nat) (x1:Nat×Nat) (x2:Nat×Nat) (w:World):(Instr.buildSlice 206 3 #[(0,.pointer (some ⟨x0.1,x0.2,none⟩)),(1,.pointer (some ⟨x1.1,x1.2,none⟩)),(2,.pointer (some ⟨x2.1,x2.2,none⟩))]).run Tryz.prog w=.ok (.slice (some ⟨w.heap.size,0,none⟩) 3 3) (w.alloc (.cells (([x0,x1,x2]:List (Nat×Nat)).flatMap zhZ).toArray 186)):=by kernel_rfl
set_option maxRecDepth 100000 in
set_option maxHeartbeats 8000000 in
theorem zuH (r:Nat) (ws:List ByteArray) (w:World) (B:Nat→Prop) (hB:∀ k,B k→k < w.heap.size) (hA:(Rdr 161 r ws).A B w) (hws:ws.length≤100000) (hcp:Rd (fun k=>k < w.heap.size∧¬ B k) w (zaW (some ⟨0,0,none⟩) 1 encS copesW)) :
  Calls Tryz.prog 110 #[.pointer (some ⟨r,0,none⟩)] w (zej 33 (zci ws) (fun x (m:Option Addr×Nat)=>.agg (zbH ⟨x.1,m.1,m.2⟩).toArray) (fun x m=>SepR [Rdr 161 r x.2,Row m.1 1 m.2 3 Go.Stn.encI x.1.heights]) B w):=by
 refine zby hB hA (vs:=[_]) Tryz.func110 rfl rfl (Nat.le_of_ble_eq_true rfl) ?_
 refine zac ?_
 refine zaa ?_
 refine zaG rfl rfl (za3 (vs:=[_]) rfl rfl) fun b1=>?_
 refine zaG rfl rfl (zaL tf41 (zs:=[_,_,_,_,_,_,_,_,_,_,_,_,_,_,_,_,_,_,_,_]) rfl) fun b2=>?_
 refine zag (zae (T':=[(1,_),(2,_)]) ⟨rfl,rfl,trivial⟩ ?_)
 refine zac ?_
 refine zaa ?_
 refine gQ (zah 1 zi1 rfl rfl rfl) ?_
 refine zbZ (res:=zes ws) 2 ztG rfl rfl rfl (fun w B hF=>zqa r ws w B (fun k hk=>(hF.own k hk).2) hF.A) (fun k hk7=>?_) (fun x7 m7 hx7=>?_)
 ·
  exact za6 (by rw [zci,hk7]; first | done | rfl)
 refine gQ (zaI rfl (ztm _)) ?_
 refine zaG rfl rfl (zaL tf41 (zs:=[_,_,_,_,_,_,_,_,_,_,_,_,_,_,_,_,_,_,_,_]) rfl) fun b3=>?_
 refine zbz 0 tf41 rfl rfl (vs:=[_,_,_,_,_,_,_,_,_,_,_,_,_,_,_,_,_,_,_,_]) rfl rfl rfl rfl rfl ?_
 refine zag (zae (T':=[(1,_),(2,_),(3,_)]) ⟨rfl,rfl,rfl,trivial⟩ ?_)
 refine zac ?_
 refine zaa ?_
 refine gQ (zbO («as»:=[]) (bs:=[_]) rfl rfl) ?_
 refine gQ (zad rfl) ?_
 refine zag (zae (T':=[(1,_),(2,_),(3,_),(4,_)]) ⟨rfl,rfl,rfl,rfl,trivial⟩ ?_)
 refine zac ?_
 refine zaa ?_
 refine gQ (zaf rfl) ?_
 refine gQ (zab znc rfl) ?_
 refine zaG rfl rfl (zaD rfl (zed (b3,1)) zbj rfl) fun b12=>?_
 refine zao 1 rfl ?_
 refine zao 4 rfl ?_
 refine zbT 2 ?_
 refine zcB (res:=oneE (⟨#[98,97,115,101]⟩:ByteArray) 1 x7.2) (fs:=[]) (cap:=[_]) 0 zhY rfl rfl rfl rfl (fun w B hF=>ziv r x7.2 b3 [.string x7.1,.int .i64 0,.int .i64 0,.int .i64 0,.int .i64 0,.slice none 0 0,.int .i64 0,.int .i64 0,.int .i64 0,.int .i64 0,.int .i64 0,.int .i64 0,.int .i64 0,.int .u8 0,.int .i64 0,.int .i64 0,.int .i64 0,.int .i64 0,.int .i64 0,.int .i64 0] 41 [1] [(b3,1)] _ _ (⟨#[98,97,115,101]⟩:ByteArray) b1 w B (fun k hk=>(hF.own k hk).2) hF.A (zdX zbj (hF.other 0 rfl)) rfl (by intro o ho; simp at ho; simp; omega) (by simp [zaP]) (hF.other 2 rfl)) (fun k hk13=>?_) (fun x13 m13 hx13=>?_)
 ·
  exact za6 (by rw [zci,hx7,zak,hk13]; first | done | rfl)
 refine zbP ?_
 refine za2 (R':=Box b3 [.string x7.1,.int .i64 ((x13.1).getD 0 0),.int .i64 0,.int .i64 0,.int .i64 0,.slice none 0 0,.int .i64 0,.int .i64 0,.int .i64 0,.int .i64 0,.int .i64 0,.int .i64 0,.int .i64 0,.int .u8 0,.int .i64 0,.int .i64 0,.int .i64 0,.int .i64 0,.int .i64 0,.int .i64 0] 41) 1 rfl (fun B w hA=>hA) ?_
 refine zaK 2 rfl ?_
 refine zag (zae (T':=[(1,_),(2,_),(3,_),(4,_)]) ⟨rfl,rfl,rfl,rfl,trivial⟩ ?_)
 refine zac ?_
 refine zaa ?_
 refine gQ (zaf rfl) ?_
 refine gQ (zab zpv rfl) ?_
 refine zaG rfl rfl (zaD rfl (zed (b3,2)) zbj rfl) fun b16=>?_
 refine zao 2 rfl ?_
 refine zao 2 rfl ?_
 refine zbT 2 ?_
 refine zcB (res:=oneE (⟨#[98,97,116,116,101,114]⟩:ByteArray) 1 x13.2) (fs:=[]) (cap:=[_]) 0 zhY rfl rfl rfl rfl (fun w B hF=>ziv r x13.2 b3 [.string x7.1,.int .i64 ((x13.1).getD 0 0),.int .i64 0,.int .i64 0,.int .i64 0,.slice none 0 0,.int .i64 0,.int .i64 0,.int .i64 0,.int .i64 0,.int .i64 0,.int .i64 0,.int .i64 0,.int .u8 0,.int .i64 0,.int .i64 0,.int .i64 0,.int .i64 0,.int .i64 0,.int .i64 0] 41 [2] [(b3,2)] _ _ (⟨#[98,97,116,116,101,114]⟩:ByteArray) b1 w B (fun k hk=>(hF.own k hk).2) hF.A (zdX zbj (hF.other 0 rfl)) rfl (by intro o ho; simp at ho; simp; omega) (by simp [zaP]) (hF.other 2 rfl)) (fun k hk17=>?_) (fun x17 m17 hx17=>?_)
 ·
  exact za6 (by rw [zci,hx7,zak,hx13,zak,hk17]; first | done | rfl)
 refine zbP ?_
 refine za2 (R':=Box b3 [.string x7.1,.int .i64 ((x13.1).getD 0 0),.int .i64 ((x17.1).getD 0 0),.int .i64 0,.int .i64 0,.slice none 0 0,.int .i64 0,.int .i64 0,.int .i64 0,.int .i64 0,.int .i64 0,.int .i64 0,.int .i64 0,.int .u8 0,.int .i64 0,.int .i64 0,.int .i64 0,.int .i64 0,.int .i64 0,.int .i64 0] 41) 1 rfl (fun B w hA=>hA) ?_
 refine zaK 2 rfl ?_
 refine zag (zae (T':=[(1,_),(2,_),(3,_),(4,_)]) ⟨rfl,rfl,rfl,rfl,trivial⟩ ?_)
 refine zac ?_
 refine zaa ?_
 refine gQ (zaf rfl) ?_
 refine gQ (zab zep rfl) ?_
 refine zaG rfl rfl (zaD rfl (zed (b3,3)) zbj rfl) fun b20=>?_
 refine zao 2 rfl ?_
 refine zao 2 rfl ?_
 refine zbT 2 ?_
 refine zcB (res:=oneE (⟨#[104,101,105,103,104,116]⟩:ByteArray) 1 x17.2) (fs:=[]) (cap:=[_]) 0 zhY rfl rfl rfl rfl (fun w B hF=>ziv r x17.2 b3 [.string x7.1,.int .i64 ((x13.1).getD 0 0),.int .i64 ((x17.1).getD 0 0),.int .i64 0,.int .i64 0,.slice none 0 0,.int .i64 0,.int .i64 0,.int .i64 0,.int .i64 0,.int .i64 0,.int .i64 0,.int .i64 0,.int .u8 0,.int .i64 0,.int .i64 0,.int .i64 0,.int .i64 0,.int .i64 0,.int .i64 0] 41 [3] [(b3,3)] _ _ (⟨#[104,101,105,103,104,116]⟩:ByteArray) b1 w B (fun k hk=>(hF.own k hk).2) hF.A (zdX zbj (hF.other 0 rfl)) rfl (by intro o ho; simp at ho; simp; omega) (by simp [zaP]) (hF.other 2 rfl)) (fun k hk21=>?_) (fun x21 m21 hx21=>?_)
 ·
  exact za6 (by rw [zci,hx7,zak,hx13,zak,hx17,zak,hk21]; first | done | rfl)
 refine zbP ?_
 refine za2 (R':=Box b3 [.string x7.1,.int .i64 ((x13.1).getD 0 0),.int .i64 ((x17.1).getD 0 0),.int .i64 ((x21.1).getD 0 0),.int .i64 0,.slice none 0 0,.int .i64 0,.int .i64 0,.int .i64 0,.int .i64 0,.int .i64 0,.int .i64 0,.int .i64 0,.int .u8 0,.int .i64 0,.int .i64 0,.int .i64 0,.int .i64 0,.int .i64 0,.int .i64 0] 41) 1 rfl (fun B w hA=>hA) ?_
 refine zaK 2 rfl ?_
 refine zag (zae (T':=[(1,_),(2,_),(3,_),(4,_)]) ⟨rfl,rfl,rfl,rfl,trivial⟩ ?_)
 refine zac ?_
 refine zaa ?_
 refine gQ (zaf rfl) ?_
 refine gQ (zab znd rfl) ?_
 refine zaG rfl rfl (zaD rfl (zed (b3,4)) zbj rfl) fun b24=>?_
 refine zao 2 rfl ?_
 refine zao 2 rfl ?_
 refine zbT 2 ?_
 refine zcB (res:=oneE (⟨#[115,107,105,110]⟩:ByteArray) 1 x21.2) (fs:=[]) (cap:=[_]) 0 zhY rfl rfl rfl rfl (fun w B hF=>ziv r x21.2 b3 [.string x7.1,.int .i64 ((x13.1).getD 0 0),.int .i64 ((x17.1).getD 0 0),.int .i64 ((x21.1).getD 0 0),.int .i64 0,.slice none 0 0,.int .i64 0,.int .i64 0,.int .i64 0,.int .i64 0,.int .i64 0,.int .i64 0,.int .i64 0,.int .u8 0,.int .i64 0,.int .i64 0,.int .i64 0,.int .i64 0,.int .i64 0,.int .i64 0] 41 [4] [(b3,4)] _ _ (⟨#[115,107,105,110]⟩:ByteArray) b1 w B (fun k hk=>(hF.own k hk).2) hF.A (zdX zbj (hF.other 0 rfl)) rfl (by intro o ho; simp at ho; simp; omega) (by simp [zaP]) (hF.other 2 rfl)) (fun k hk25=>?_) (fun x25 m25 hx25=>?_)
 ·
  exact za6 (by rw [zci,hx7,zak,hx13,zak,hx17,zak,hx21,zak,hk25]; first | done | rfl)
 refine zbP ?_
 refine za2 (R':=Box b3 [.string x7.1,.int .i64 ((x13.1).getD 0 0),.int .i64 ((x17.1).getD 0 0),.int .i64 ((x21.1).getD 0 0),.int .i64 ((x25.1).getD 0 0),.slice none 0 0,.int .i64 0,.int .i64 0,.int .i64 0,.int .i64 0,.int .i64 0,.int .i64 0,.int .i64 0,.int .u8 0,.int .i64 0,.int .i64 0,.int .i64 0,.int .i64 0,.int .i64 0,.int .i64 0] 41) 1 rfl (fun B w hA=>hA) ?_
 refine zaK 2 rfl ?_
 refine zag (zae (T':=[(1,_),(2,_),(3,_),(4,_)]) ⟨rfl,rfl,rfl,rfl,trivial⟩ ?_)
 refine zac ?_
 refine zaa ?_
 refine gQ (zah 3 zi1 rfl rfl rfl) ?_
 refine zbZ (res:=sayE (⟨#[104,101,105,103,104,116,115]⟩:ByteArray) x25.2) 0 ztI rfl rfl rfl (fun w B hF=>zuG r x25.2 (⟨#[104,101,105,103,104,116,115]⟩:ByteArray) w B (fun k hk=>(hF.own k hk).2) hF.A) (fun k hk27=>?_) (fun x27 m27 hx27=>?_)
 ·
  exact za6 (by rw [zci,hx7,zak,hx13,zak,hx17,zak,hx21,zak,hx25,zak,hk27]; first | done | rfl)
 refine zag (zae (T':=[(1,_),(2,_),(3,_),(4,_)]) ⟨rfl,rfl,rfl,rfl,trivial⟩ ?_)
 have hlen27:x27.2.length≤ws.length:=by have:=znu hx7; have:=zfo hx13; have:=zfo hx17; have:=zfo hx21; have:=zfo hx25; have:=zmz hx27; omega
 refine zao 3 rfl ?_
 refine zao 3 rfl ?_
 refine zao 3 rfl ?_
 refine zao 3 rfl ?_
 refine zac ?_
 refine zas ?_
 refine zbB 3 Go.Stn.encI 1 ?_
 refine zbf (X:=List Int×List ByteArray×Option Addr×Nat) (fun⟨acc,us,ha,hc⟩=>[(1,.pointer (some ⟨b1,0,none⟩)),(2,.pointer (some ⟨b2,0,none⟩)),(3,.pointer (some ⟨b3,0,none⟩)),(4,.func (.func 131) #[] #[.pointer (some ⟨b1,0,none⟩)])]) (fun⟨acc,us,ha,hc⟩=>[Row ha 1 hc 3 Go.Stn.encI acc,Rdr 161 r us,Box b3 [.string x7.1,.int .i64 ((x13.1).getD 0 0),.int .i64 ((x17.1).getD 0 0),.int .i64 ((x21.1).getD 0 0),.int .i64 ((x25.1).getD 0 0),.slice ha acc.length hc,.int .i64 0,.int .i64 0,.int .i64 0,.int .i64 0,.int .i64 0,.int .i64 0,.int .i64 0,.int .u8 0,.int .i64 0,.int .i64 0,.int .i64 0,.int .i64 0,.int .i64 0,.int .i64 0] 41,Box b2 [.string ⟨#[]⟩,.int .i64 0,.int .i64 0,.int .i64 0,.int .i64 0,.slice none 0 0,.int .i64 0,.int .i64 0,.int .i64 0,.int .i64 0,.int .i64 0,.int .i64 0,.int .i64 0,.int .u8 0,.int .i64 0,.int .i64 0,.int .i64 0,.int .i64 0,.int .i64 0,.int .i64 0] 41,Box b1 [.pointer (some ⟨r,0,none⟩)] 158]) (fun⟨acc,us,ha,hc⟩=>(zbF acc us=zbF [] x27.2∧acc.length+us.length≤x27.2.length)) (fun⟨acc,us,ha,hc⟩=>us.length) ([],x27.2,none,0) ⟨rfl,rfl,rfl,rfl,trivial⟩ rfl ?_ ?_
 ·exact⟨rfl,by simp⟩
 ·rintro ⟨acc,us,ha,hc⟩ hI
  obtain⟨hI,hal⟩:=hI
  refine zao 1 rfl ?_
  refine zgV fun a1h c1h hc1h=>?_
  refine zac ?_
  refine zac ?_
  refine zbb 15 (fun _=>mixed) (by kernel_rfl) ?_
  refine ph_y (zah 5 zi1 rfl rfl rfl) ?_
  refine ph_y (zbx rfl) ?_
  refine ph_y (zab zf0 rfl) ?_
  refine ph_y (zah 0 zmF rfl rfl rfl) ?_
  refine ph_y (zaV (Tryz.underlying124) rfl) ?_
  refine ph_y (zc6 rfl rfl) ?_
  refine ph_y (zaf rfl) ?_
  refine zaH rfl rfl (fun hgd=>by(try rw [hgd]); (try have hgd2:=of_decide_eq_true hgd); exact(zah 5 zi1 rfl rfl rfl)) ?_
  refine zaH rfl rfl (fun hgd=>by(try rw [hgd]); (try have hgd2:=of_decide_eq_true hgd); exact(zbx rfl)) ?_
  refine zaH rfl rfl (fun hgd=>by(try rw [hgd]); (try have hgd2:=of_decide_eq_true hgd); exact(zab zf0 rfl)) ?_
  refine zaH rfl rfl (fun hgd=>by(try rw [hgd]); (try have hgd2:=of_decide_eq_true hgd); exact(zah 0 zmF rfl rfl rfl)) ?_
  refine zaH rfl rfl (fun hgd=>by(try rw [hgd]); (try have hgd2:=of_decide_eq_true hgd); exact(zaE zqJ rfl rfl (fun _ hw=>(hw.has (p:=1) rfl)) (by omega) (by omega))) ?_
  refine zaH rfl rfl (fun hgd=>by(try rw [hgd]); (try have hgd2:=of_decide_eq_true hgd); exact(zcE tf9 rfl (fun _ hw=>(hw.has (p:=1) rfl)) (by omega) (by omega) rfl)) ?_
  refine zaH rfl rfl (fun hgd=>by(try rw [hgd]); (try have hgd2:=of_decide_eq_true hgd); exact(ziV rfl rfl)) ?_
  refine ph_y (zaX rfl rfl rfl) ?_
  refine zag (zae (T':=[(1,_),(2,_),(3,_),(4,_),(42,_)]) ⟨rfl,rfl,rfl,rfl,rfl,trivial⟩ ?_)
  refine zao 1 rfl ?_
  refine zao 1 rfl ?_
  refine zeH hc1h ?_
  refine zao 4 rfl ?_
  refine zap rfl (fun hc42=>?_) (fun hc42=>?_)
  ·simp only [Bool.and_eq_true,decide_eq_true_eq] at hc42
   have h0:¬ us.length=0:=by have:=hc42.1; omega
   have hl0:¬ ((us.getD 0 default).toList == wLeast.toList)=true:=by have:=hc42.2; rw [Bool.not_eq_true'] at this; rw [show((us.getD 0 default).toList == wLeast.toList)=false from this]; exact Bool.false_ne_true
   refine zaq ?_
   refine zas ?_
   refine zac ?_
   refine zaa ?_
   refine zaG rfl rfl (zaL tf3 (zs:=[_]) rfl) fun b5=>?_
   refine zag (zae (T':=[(1,_),(2,_),(3,_),(4,_),(5,_)]) ⟨rfl,rfl,rfl,rfl,rfl,trivial⟩ ?_)
   refine zac ?_
   refine zaa ?_
   refine gQ (zah 1 zi1 rfl rfl rfl) ?_
   refine zaG rfl rfl (zaD rfl (zed (b5,0)) zbj rfl) fun b44=>?_
   refine zao 1 rfl ?_
   refine zao 3 rfl ?_
   refine zbT 2 ?_
   refine zbZ (res:=zco 1 us) 0 zpl rfl rfl rfl (fun w B hF=>zfl r us b5 [.int .i64 0] 3 [0] [(b5,0)] _ _ w B (fun k hk=>(hF.own k hk).2) hF.A (zdX zbj (hF.other 0 rfl)) rfl (by intro o ho; simp at ho; simp; omega) (by simp [zaP])) (fun k hk45=>?_) (fun x45 m45 hx45=>?_)
   ·
    have hh6:zbF [] x27.2=.error k:=by rw [←hI,zgs h0 hl0,hk45]; rfl
    exact za6 (by rw [zci,hx7,zak,hx13,zak,hx17,zak,hx21,zak,hx25,zak,hx27,zak,hh6]; first | done | rfl)
   refine zbP ?_
   refine za2 (R':=Box b5 [.int .i64 ((x45.1).getD 0 0)] 3) 1 rfl (fun B w hA=>hA) ?_
   refine zaK 2 rfl ?_
   refine zag (zae (T':=[(1,_),(2,_),(3,_),(4,_),(5,_)]) ⟨rfl,rfl,rfl,rfl,rfl,trivial⟩ ?_)
   refine zaa ?_
   refine gQ (zab zia rfl) ?_
   refine gQ (zah 4 tf35 rfl rfl rfl) ?_
   refine gQ (zah 1 tf3 rfl rfl rfl) ?_
   refine zaG rfl rfl (zaD rfl (zo0 _) Go.Stn.encI_ok rfl) fun b49=>?_
   refine zb4 (m:=[((x45.1).getD 0 0)]) 4 af35 Go.Stn.encI_ok rfl rfl rfl rfl (fun _ hw=>(zam Go.Stn.encI_ok (hw.has (p:=0) rfl))) (by first | omega | (simp only [List.length_cons,List.length_nil]; omega)) (by first | (unfold maxLen; omega) | (simp only [List.length_cons,List.length_nil,maxLen]; omega)) fun a50 c50=>?_
   refine gQ (zab zia rfl) ?_
   refine zaA 5 tf35 rfl rfl (vs:=[_]) rfl rfl rfl rfl rfl ?_
   refine zag (zae (T':=[(1,_),(2,_),(3,_),(4,_)]) ⟨rfl,rfl,rfl,rfl,trivial⟩ ?_)
   refine zaK 0 rfl ?_
   refine zaK 1 rfl ?_
   refine zao 1 rfl ?_
   refine zao 4 rfl ?_
   refine zao 4 rfl ?_
   refine zao 3 rfl ?_
   refine zao 4 rfl ?_
   exact za1 (acc++[(x45.1).getD 0 0],x45.2,a50,c50) ⟨rfl,rfl,rfl,rfl,trivial⟩ rfl ⟨by rw [←hI,zgs h0 hl0,hx45]; rfl,by have:=zlj hx45; simp only [List.length_append,List.length_cons,List.length_nil]; omega⟩ (by have:=zlj hx45; simp only []; omega)
  ·simp only [Bool.and_eq_false_iff,decide_eq_false_iff_not] at hc42
   have hh6:zbF [] x27.2=.ok (acc,us):=by rw [←hI]; exact zk4 (by rcases hc42 with h | h; exact .inl (by omega); exact .inr (zll h))
   refine za8 rfl ?_
   refine zac ?_
   refine zaa ?_
   refine gQ (zaf rfl) ?_
   refine gQ (zab zpw rfl) ?_
   refine zaG rfl rfl (zaD rfl (zed (b3,6)) zbj rfl) fun b54=>?_
   refine zao 4 rfl ?_
   refine zao 3 rfl ?_
   refine zbT 2 ?_
   refine zcB (res:=oneE (⟨#[108,101,97,115,116]⟩:ByteArray) 1 us) (fs:=[]) (cap:=[_]) 0 zhY rfl rfl rfl rfl (fun w B hF=>ziv r us b3 [.string x7.1,.int .i64 ((x13.1).getD 0 0),.int .i64 ((x17.1).getD 0 0),.int .i64 ((x21.1).getD 0 0),.int .i64 ((x25.1).getD 0 0),.slice ha acc.length hc,.int .i64 0,.int .i64 0,.int .i64 0,.int .i64 0,.int .i64 0,.int .i64 0,.int .i64 0,.int .u8 0,.int .i64 0,.int .i64 0,.int .i64 0,.int .i64 0,.int .i64 0,.int .i64 0] 41 [6] [(b3,6)] _ _ (⟨#[108,101,97,115,116]⟩:ByteArray) b1 w B (fun k hk=>(hF.own k hk).2) hF.A (zdX zbj (hF.other 0 rfl)) rfl (by intro o ho; simp at ho; simp; omega) (by simp [zaP]) (hF.other 1 rfl)) (fun k hk55=>?_) (fun x55 m55 hx55=>?_)
   ·
    exact za6 (by rw [zci,hx7,zak,hx13,zak,hx17,zak,hx21,zak,hx25,zak,hx27,zak,hh6,zak,hk55]; first | done | rfl)
   refine zbP ?_
   refine za2 (R':=Box b3 [.string x7.1,.int .i64 ((x13.1).getD 0 0),.int .i64 ((x17.1).getD 0 0),.int .i64 ((x21.1).getD 0 0),.int .i64 ((x25.1).getD 0 0),.slice ha acc.length hc,.int .i64 ((x55.1).getD 0 0),.int .i64 0,.int .i64 0,.int .i64 0,.int .i64 0,.int .i64 0,.int .i64 0,.int .u8 0,.int .i64 0,.int .i64 0,.int .i64 0,.int .i64 0,.int .i64 0,.int .i64 0] 41) 1 rfl (fun B w hA=>hA) ?_
   refine zaK 2 rfl ?_
   refine zag (zae (T':=[(1,_),(2,_),(3,_),(4,_)]) ⟨rfl,rfl,rfl,rfl,trivial⟩ ?_)
   refine zac ?_
   refine zaa ?_
   refine gQ (zaf rfl) ?_
   refine gQ (zab zsK rfl) ?_
   refine zaG rfl rfl (zaD rfl (zed (b3,7)) zbj rfl) fun b58=>?_
   refine zao 2 rfl ?_
   refine zao 2 rfl ?_
   refine zbT 2 ?_
   refine zcB (res:=oneE (⟨#[108,97,112]⟩:ByteArray) 1 x55.2) (fs:=[]) (cap:=[_]) 0 zhY rfl rfl rfl rfl (fun w B hF=>ziv r x55.2 b3 [.string x7.1,.int .i64 ((x13.1).getD 0 0),.int .i64 ((x17.1).getD 0 0),.int .i64 ((x21.1).getD 0 0),.int .i64 ((x25.1).getD 0 0),.slice ha acc.length hc,.int .i64 ((x55.1).getD 0 0),.int .i64 0,.int .i64 0,.int .i64 0,.int .i64 0,.int .i64 0,.int .i64 0,.int .u8 0,.int .i64 0,.int .i64 0,.int .i64 0,.int .i64 0,.int .i64 0,.int .i64 0] 41 [7] [(b3,7)] _ _ (⟨#[108,97,112]⟩:ByteArray) b1 w B (fun k hk=>(hF.own k hk).2) hF.A (zdX zbj (hF.other 0 rfl)) rfl (by intro o ho; simp at ho; simp; omega) (by simp [zaP]) (hF.other 1 rfl)) (fun k hk59=>?_) (fun x59 m59 hx59=>?_)
   ·
    exact za6 (by rw [zci,hx7,zak,hx13,zak,hx17,zak,hx21,zak,hx25,zak,hx27,zak,hh6,zak,hx55,zak,hk59]; first | done | rfl)
   refine zbP ?_
   refine za2 (R':=Box b3 [.string x7.1,.int .i64 ((x13.1).getD 0 0),.int .i64 ((x17.1).getD 0 0),.int .i64 ((x21.1).getD 0 0),.int .i64 ((x25.1).getD 0 0),.slice ha acc.length hc,.int .i64 ((x55.1).getD 0 0),.int .i64 ((x59.1).getD 0 0),.int .i64 0,.int .i64 0,.int .i64 0,.int .i64 0,.int .i64 0,.int .u8 0,.int .i64 0,.int .i64 0,.int .i64 0,.int .i64 0,.int .i64 0,.int .i64 0] 41) 1 rfl (fun B w hA=>hA) ?_
   refine zaK 2 rfl ?_
   refine zag (zae (T':=[(1,_),(2,_),(3,_),(4,_)]) ⟨rfl,rfl,rfl,rfl,trivial⟩ ?_)
   refine zac ?_
   refine zaa ?_
   refine gQ (zaf rfl) ?_
   refine gQ (zab zsL rfl) ?_
   refine zaG rfl rfl (zaD rfl (zed (b3,8)) zbj rfl) fun b62=>?_
   refine zao 2 rfl ?_
   refine zao 2 rfl ?_
   refine zbT 2 ?_
   refine zcB (res:=oneE (⟨#[114,117,110]⟩:ByteArray) 1 x59.2) (fs:=[]) (cap:=[_]) 0 zhY rfl rfl rfl rfl (fun w B hF=>ziv r x59.2 b3 [.string x7.1,.int .i64 ((x13.1).getD 0 0),.int .i64 ((x17.1).getD 0 0),.int .i64 ((x21.1).getD 0 0),.int .i64 ((x25.1).getD 0 0),.slice ha acc.length hc,.int .i64 ((x55.1).getD 0 0),.int .i64 ((x59.1).getD 0 0),.int .i64 0,.int .i64 0,.int .i64 0,.int .i64 0,.int .i64 0,.int .u8 0,.int .i64 0,.int .i64 0,.int .i64 0,.int .i64 0,.int .i64 0,.int .i64 0] 41 [8] [(b3,8)] _ _ (⟨#[114,117,110]⟩:ByteArray) b1 w B (fun k hk=>(hF.own k hk).2) hF.A (zdX zbj (hF.other 0 rfl)) rfl (by intro o ho; simp at ho; simp; omega) (by simp [zaP]) (hF.other 1 rfl)) (fun k hk63=>?_) (fun x63 m63 hx63=>?_)
   ·
    exact za6 (by rw [zci,hx7,zak,hx13,zak,hx17,zak,hx21,zak,hx25,zak,hx27,zak,hh6,zak,hx55,zak,hx59,zak,hk63]; first | done | rfl)
   refine zbP ?_
   refine za2 (R':=Box b3 [.string x7.1,.int .i64 ((x13.1).getD 0 0),.int .i64 ((x17.1).getD 0 0),.int .i64 ((x21.1).getD 0 0),.int .i64 ((x25.1).getD 0 0),.slice ha acc.length hc,.int .i64 ((x55.1).getD 0 0),.int .i64 ((x59.1).getD 0 0),.int .i64 ((x63.1).getD 0 0),.int .i64 0,.int .i64 0,.int .i64 0,.int .i64 0,.int .u8 0,.int .i64 0,.int .i64 0,.int .i64 0,.int .i64 0,.int .i64 0,.int .i64 0] 41) 1 rfl (fun B w hA=>hA) ?_
   refine zaK 2 rfl ?_
   refine zag (zae (T':=[(1,_),(2,_),(3,_),(4,_)]) ⟨rfl,rfl,rfl,rfl,trivial⟩ ?_)
   refine zac ?_
   refine zaa ?_
   refine gQ (zaf rfl) ?_
   refine gQ (zab zhc rfl) ?_
   refine gQ (zab zh9 rfl) ?_
   refine zaG rfl rfl (zaD rfl (zlT (b3,9) (b3,10)) zbj rfl) fun b67=>?_
   refine zao 2 rfl ?_
   refine zao 2 rfl ?_
   refine zbT 2 ?_
   refine zcB (res:=oneE (⟨#[116,104,114,111,117,103,104]⟩:ByteArray) 2 x63.2) (fs:=[]) (cap:=[_]) 0 zhY rfl rfl rfl rfl (fun w B hF=>ziv r x63.2 b3 [.string x7.1,.int .i64 ((x13.1).getD 0 0),.int .i64 ((x17.1).getD 0 0),.int .i64 ((x21.1).getD 0 0),.int .i64 ((x25.1).getD 0 0),.slice ha acc.length hc,.int .i64 ((x55.1).getD 0 0),.int .i64 ((x59.1).getD 0 0),.int .i64 ((x63.1).getD 0 0),.int .i64 0,.int .i64 0,.int .i64 0,.int .i64 0,.int .u8 0,.int .i64 0,.int .i64 0,.int .i64 0,.int .i64 0,.int .i64 0,.int .i64 0] 41 [9,10] [(b3,9),(b3,10)] _ _ (⟨#[116,104,114,111,117,103,104]⟩:ByteArray) b1 w B (fun k hk=>(hF.own k hk).2) hF.A (zdX zbj (hF.other 0 rfl)) rfl (by intro o ho; simp at ho; simp; omega) (by simp [zaP]) (hF.other 1 rfl)) (fun k hk68=>?_) (fun x68 m68 hx68=>?_)
   ·
    exact za6 (by rw [zci,hx7,zak,hx13,zak,hx17,zak,hx21,zak,hx25,zak,hx27,zak,hh6,zak,hx55,zak,hx59,zak,hx63,zak,hk68]; first | done | rfl)
   refine zbP ?_
   refine za2 (R':=Box b3 [.string x7.1,.int .i64 ((x13.1).getD 0 0),.int .i64 ((x17.1).getD 0 0),.int .i64 ((x21.1).getD 0 0),.int .i64 ((x25.1).getD 0 0),.slice ha acc.length hc,.int .i64 ((x55.1).getD 0 0),.int .i64 ((x59.1).getD 0 0),.int .i64 ((x63.1).getD 0 0),.int .i64 ((x68.1).getD 0 0),.int .i64 (((x68.1.drop 1)).getD 0 0),.int .i64 0,.int .i64 0,.int .u8 0,.int .i64 0,.int .i64 0,.int .i64 0,.int .i64 0,.int .i64 0,.int .i64 0] 41) 1 rfl (fun B w hA=>hA) ?_
   refine zaK 2 rfl ?_
   refine zag (zae (T':=[(1,_),(2,_),(3,_),(4,_)]) ⟨rfl,rfl,rfl,rfl,trivial⟩ ?_)
   refine zac ?_
   refine zaa ?_
   refine gQ (zaf rfl) ?_
   refine gQ (zab zl8 rfl) ?_
   refine gQ (zab zl9 rfl) ?_
   refine zaG rfl rfl (zaD rfl (zlT (b3,11) (b3,12)) zbj rfl) fun b72=>?_
   refine zao 2 rfl ?_
   refine zao 2 rfl ?_
   refine zbT 2 ?_
   refine zcB (res:=oneE (⟨#[102,111,111,116,105,110,103]⟩:ByteArray) 2 x68.2) (fs:=[]) (cap:=[_]) 0 zhY rfl rfl rfl rfl (fun w B hF=>ziv r x68.2 b3 [.string x7.1,.int .i64 ((x13.1).getD 0 0),.int .i64 ((x17.1).getD 0 0),.int .i64 ((x21.1).getD 0 0),.int .i64 ((x25.1).getD 0 0),.slice ha acc.length hc,.int .i64 ((x55.1).getD 0 0),.int .i64 ((x59.1).getD 0 0),.int .i64 ((x63.1).getD 0 0),.int .i64 ((x68.1).getD 0 0),.int .i64 (((x68.1.drop 1)).getD 0 0),.int .i64 0,.int .i64 0,.int .u8 0,.int .i64 0,.int .i64 0,.int .i64 0,.int .i64 0,.int .i64 0,.int .i64 0] 41 [11,12] [(b3,11),(b3,12)] _ _ (⟨#[102,111,111,116,105,110,103]⟩:ByteArray) b1 w B (fun k hk=>(hF.own k hk).2) hF.A (zdX zbj (hF.other 0 rfl)) rfl (by intro o ho; simp at ho; simp; omega) (by simp [zaP]) (hF.other 1 rfl)) (fun k hk73=>?_) (fun x73 m73 hx73=>?_)
   ·
    exact za6 (by rw [zci,hx7,zak,hx13,zak,hx17,zak,hx21,zak,hx25,zak,hx27,zak,hh6,zak,hx55,zak,hx59,zak,hx63,zak,hx68,zak,hk73]; first | done | rfl)
   refine zbP ?_
   refine za2 (R':=Box b3 [.string x7.1,.int .i64 ((x13.1).getD 0 0),.int .i64 ((x17.1).getD 0 0),.int .i64 ((x21.1).getD 0 0),.int .i64 ((x25.1).getD 0 0),.slice ha acc.length hc,.int .i64 ((x55.1).getD 0 0),.int .i64 ((x59.1).getD 0 0),.int .i64 ((x63.1).getD 0 0),.int .i64 ((x68.1).getD 0 0),.int .i64 (((x68.1.drop 1)).getD 0 0),.int .i64 ((x73.1).getD 0 0),.int .i64 (((x73.1.drop 1)).getD 0 0),.int .u8 0,.int .i64 0,.int .i64 0,.int .i64 0,.int .i64 0,.int .i64 0,.int .i64 0] 41) 1 rfl (fun B w hA=>hA) ?_
   refine zaK 2 rfl ?_
   refine zag (zae (T':=[(1,_),(2,_),(3,_),(4,_)]) ⟨rfl,rfl,rfl,rfl,trivial⟩ ?_)
   refine zac ?_
   refine zaa ?_
   refine gQ (zah 2 zi1 rfl rfl rfl) ?_
   refine zbZ (res:=sayE (⟨#[99,111,112,101]⟩:ByteArray) x73.2) 0 ztI rfl rfl rfl (fun w B hF=>zuG r x73.2 (⟨#[99,111,112,101]⟩:ByteArray) w B (fun k hk=>(hF.own k hk).2) hF.A) (fun k hk75=>?_) (fun x75 m75 hx75=>?_)
   ·
    exact za6 (by rw [zci,hx7,zak,hx13,zak,hx17,zak,hx21,zak,hx25,zak,hx27,zak,hh6,zak,hx55,zak,hx59,zak,hx63,zak,hx68,zak,hx73,zak,hk75]; first | done | rfl)
   refine zag (zae (T':=[(1,_),(2,_),(3,_),(4,_)]) ⟨rfl,rfl,rfl,rfl,trivial⟩ ?_)
   refine zac ?_
   refine zbb 2 (fun _=>mixed) (by kernel_rfl) ?_
   refine ph_y (zah 2 zi1 rfl rfl rfl) ?_
   refine ph_y (zjB zxu rfl) ?_
   refine zae (T':=[(1,_),(2,_),(3,_),(4,_),(76,_),(77,_)]) ⟨rfl,rfl,rfl,rfl,rfl,rfl,trivial⟩ ?_
   refine zbZ (res:=zfk copesW 0 x75.2) 0 zvS rfl rfl rfl (fun w B hF=>zsX r x75.2 (some ⟨0,0,none⟩) 4 copesW 0 w B (fun k hk=>(hF.own k hk).2) hF.A (hF.rd hcp) (by decide) (by decide) (by decide)) (fun k hk78=>?_) (fun x78 m78 hx78=>?_)
   ·
    exact za6 (by rw [zci,hx7,zak,hx13,zak,hx17,zak,hx21,zak,hx25,zak,hx27,zak,hh6,zak,hx55,zak,hx59,zak,hx63,zak,hx68,zak,hx73,zak,hx75,zak,hk78]; first | done | rfl)
   refine gQ (zab zjW rfl) ?_
   refine zaA 1 tf5 rfl rfl (vs:=[_]) rfl rfl rfl rfl rfl ?_
   refine zag (zae (T':=[(1,_),(2,_),(3,_),(4,_)]) ⟨rfl,rfl,rfl,rfl,trivial⟩ ?_)
   refine zac ?_
   refine zaa ?_
   refine gQ (zah 2 zi1 rfl rfl rfl) ?_
   refine gQ (zab zfc rfl) ?_
   refine gQ (zab zf1 rfl) ?_
   refine gQ (zab zfd rfl) ?_
   refine zaG rfl rfl (zaD rfl (ztr (b3,14) (b3,15) (b3,16)) zbj rfl) fun b84=>?_
   refine zao 2 rfl ?_
   refine zao 2 rfl ?_
   refine zbT 2 ?_
   refine zbZ (res:=zco 3 x78.2) 0 zpl rfl rfl rfl (fun w B hF=>zfl r x78.2 b3 [.string x7.1,.int .i64 ((x13.1).getD 0 0),.int .i64 ((x17.1).getD 0 0),.int .i64 ((x21.1).getD 0 0),.int .i64 ((x25.1).getD 0 0),.slice ha acc.length hc,.int .i64 ((x55.1).getD 0 0),.int .i64 ((x59.1).getD 0 0),.int .i64 ((x63.1).getD 0 0),.int .i64 ((x68.1).getD 0 0),.int .i64 (((x68.1.drop 1)).getD 0 0),.int .i64 ((x73.1).getD 0 0),.int .i64 (((x73.1.drop 1)).getD 0 0),.int .u8 x78.1,.int .i64 0,.int .i64 0,.int .i64 0,.int .i64 0,.int .i64 0,.int .i64 0] 41 [14,15,16] [(b3,14),(b3,15),(b3,16)] _ _ w B (fun k hk=>(hF.own k hk).2) hF.A (zdX zbj (hF.other 0 rfl)) rfl (by intro o ho; simp at ho; simp; omega) (by simp [zaP])) (fun k hk85=>?_) (fun x85 m85 hx85=>?_)
   ·
    exact za6 (by rw [zci,hx7,zak,hx13,zak,hx17,zak,hx21,zak,hx25,zak,hx27,zak,hh6,zak,hx55,zak,hx59,zak,hx63,zak,hx68,zak,hx73,zak,hx75,zak,hx78,zak,hk85]; first | done | rfl)
   refine zbP ?_
   refine za2 (R':=Box b3 [.string x7.1,.int .i64 ((x13.1).getD 0 0),.int .i64 ((x17.1).getD 0 0),.int .i64 ((x21.1).getD 0 0),.int .i64 ((x25.1).getD 0 0),.slice ha acc.length hc,.int .i64 ((x55.1).getD 0 0),.int .i64 ((x59.1).getD 0 0),.int .i64 ((x63.1).getD 0 0),.int .i64 ((x68.1).getD 0 0),.int .i64 (((x68.1.drop 1)).getD 0 0),.int .i64 ((x73.1).getD 0 0),.int .i64 (((x73.1.drop 1)).getD 0 0),.int .u8 x78.1,.int .i64 ((x85.1).getD 0 0),.int .i64 (((x85.1.drop 1)).getD 0 0),.int .i64 ((((x85.1.drop 1).drop 1)).getD 0 0),.int .i64 0,.int .i64 0,.int .i64 0] 41) 1 rfl (fun B w hA=>hA) ?_
   refine zaK 2 rfl ?_
   refine zag (zae (T':=[(2,_),(3,_),(4,_)]) ⟨rfl,rfl,rfl,trivial⟩ ?_)
   refine zac ?_
   refine zaa ?_
   refine gQ (zaf rfl) ?_
   refine gQ (zab zpu rfl) ?_
   refine gQ (zab zma rfl) ?_
   refine zaG rfl rfl (zaD rfl (zlT (b3,17) (b3,18)) zbj rfl) fun b89=>?_
   refine zao 2 rfl ?_
   refine zao 2 rfl ?_
   refine zbT 2 ?_
   refine zcB (res:=oneE (⟨#[102,114,105,99,116,105,111,110]⟩:ByteArray) 2 x85.2) (fs:=[]) (cap:=[_]) 0 zhY rfl rfl rfl rfl (fun w B hF=>ziv r x85.2 b3 [.string x7.1,.int .i64 ((x13.1).getD 0 0),.int .i64 ((x17.1).getD 0 0),.int .i64 ((x21.1).getD 0 0),.int .i64 ((x25.1).getD 0 0),.slice ha acc.length hc,.int .i64 ((x55.1).getD 0 0),.int .i64 ((x59.1).getD 0 0),.int .i64 ((x63.1).getD 0 0),.int .i64 ((x68.1).getD 0 0),.int .i64 (((x68.1.drop 1)).getD 0 0),.int .i64 ((x73.1).getD 0 0),.int .i64 (((x73.1.drop 1)).getD 0 0),.int .u8 x78.1,.int .i64 ((x85.1).getD 0 0),.int .i64 (((x85.1.drop 1)).getD 0 0),.int .i64 ((((x85.1.drop 1).drop 1)).getD 0 0),.int .i64 0,.int .i64 0,.int .i64 0] 41 [17,18] [(b3,17),(b3,18)] _ _ (⟨#[102,114,105,99,116,105,111,110]⟩:ByteArray) b1 w B (fun k hk=>(hF.own k hk).2) hF.A (zdX zbj (hF.other 0 rfl)) rfl (by intro o ho; simp at ho; simp; omega) (by simp [zaP]) (hF.other 1 rfl)) (fun k hk90=>?_) (fun x90 m90 hx90=>?_)
   ·
    exact za6 (by rw [zci,hx7,zak,hx13,zak,hx17,zak,hx21,zak,hx25,zak,hx27,zak,hh6,zak,hx55,zak,hx59,zak,hx63,zak,hx68,zak,hx73,zak,hx75,zak,hx78,zak,hx85,zak,hk90]; first | done | rfl)
   refine zbP ?_
   refine za2 (R':=Box b3 [.string x7.1,.int .i64 ((x13.1).getD 0 0),.int .i64 ((x17.1).getD 0 0),.int .i64 ((x21.1).getD 0 0),.int .i64 ((x25.1).getD 0 0),.slice ha acc.length hc,.int .i64 ((x55.1).getD 0 0),.int .i64 ((x59.1).getD 0 0),.int .i64 ((x63.1).getD 0 0),.int .i64 ((x68.1).getD 0 0),.int .i64 (((x68.1.drop 1)).getD 0 0),.int .i64 ((x73.1).getD 0 0),.int .i64 (((x73.1.drop 1)).getD 0 0),.int .u8 x78.1,.int .i64 ((x85.1).getD 0 0),.int .i64 (((x85.1.drop 1)).getD 0 0),.int .i64 ((((x85.1.drop 1).drop 1)).getD 0 0),.int .i64 ((x90.1).getD 0 0),.int .i64 (((x90.1.drop 1)).getD 0 0),.int .i64 0] 41) 1 rfl (fun B w hA=>hA) ?_
   refine zaK 2 rfl ?_
   refine zag (zae (T':=[(2,_),(3,_),(4,_)]) ⟨rfl,rfl,rfl,trivial⟩ ?_)
   refine zac ?_
   refine zaa ?_
   refine gQ (zaf rfl) ?_
   refine gQ (zab zmb rfl) ?_
   refine zaG rfl rfl (zaD rfl (zed (b3,19)) zbj rfl) fun b93=>?_
   refine zao 2 rfl ?_
   refine zao 2 rfl ?_
   refine zbT 2 ?_
   refine zcB (res:=oneE (⟨#[114,111,111,100]⟩:ByteArray) 1 x90.2) (fs:=[]) (cap:=[_]) 0 zhY rfl rfl rfl rfl (fun w B hF=>ziv r x90.2 b3 [.string x7.1,.int .i64 ((x13.1).getD 0 0),.int .i64 ((x17.1).getD 0 0),.int .i64 ((x21.1).getD 0 0),.int .i64 ((x25.1).getD 0 0),.slice ha acc.length hc,.int .i64 ((x55.1).getD 0 0),.int .i64 ((x59.1).getD 0 0),.int .i64 ((x63.1).getD 0 0),.int .i64 ((x68.1).getD 0 0),.int .i64 (((x68.1.drop 1)).getD 0 0),.int .i64 ((x73.1).getD 0 0),.int .i64 (((x73.1.drop 1)).getD 0 0),.int .u8 x78.1,.int .i64 ((x85.1).getD 0 0),.int .i64 (((x85.1.drop 1)).getD 0 0),.int .i64 ((((x85.1.drop 1).drop 1)).getD 0 0),.int .i64 ((x90.1).getD 0 0),.int .i64 (((x90.1.drop 1)).getD 0 0),.int .i64 0] 41 [19] [(b3,19)] _ _ (⟨#[114,111,111,100]⟩:ByteArray) b1 w B (fun k hk=>(hF.own k hk).2) hF.A (zdX zbj (hF.other 0 rfl)) rfl (by intro o ho; simp at ho; simp; omega) (by simp [zaP]) (hF.other 1 rfl)) (fun k hk94=>?_) (fun x94 m94 hx94=>?_)
   ·
    exact za6 (by rw [zci,hx7,zak,hx13,zak,hx17,zak,hx21,zak,hx25,zak,hx27,zak,hh6,zak,hx55,zak,hx59,zak,hx63,zak,hx68,zak,hx73,zak,hx75,zak,hx78,zak,hx85,zak,hx90,zak,hk94]; first | done | rfl)
   refine zbP ?_
   refine za2 (R':=Box b3 [.string x7.1,.int .i64 ((x13.1).getD 0 0),.int .i64 ((x17.1).getD 0 0),.int .i64 ((x21.1).getD 0 0),.int .i64 ((x25.1).getD 0 0),.slice ha acc.length hc,.int .i64 ((x55.1).getD 0 0),.int .i64 ((x59.1).getD 0 0),.int .i64 ((x63.1).getD 0 0),.int .i64 ((x68.1).getD 0 0),.int .i64 (((x68.1.drop 1)).getD 0 0),.int .i64 ((x73.1).getD 0 0),.int .i64 (((x73.1.drop 1)).getD 0 0),.int .u8 x78.1,.int .i64 ((x85.1).getD 0 0),.int .i64 (((x85.1.drop 1)).getD 0 0),.int .i64 ((((x85.1.drop 1).drop 1)).getD 0 0),.int .i64 ((x90.1).getD 0 0),.int .i64 (((x90.1.drop 1)).getD 0 0),.int .i64 ((x94.1).getD 0 0)] 41) 1 rfl (fun B w hA=>hA) ?_
   refine zaK 2 rfl ?_
   refine zag (zae (T':=[(2,_),(3,_)]) ⟨rfl,rfl,trivial⟩ ?_)
   refine zac ?_
   refine zac ?_
   refine zaa ?_
   refine gQ (zab zia rfl) ?_
   refine gQ (zah 1 tf35 rfl rfl rfl) ?_
   refine gQ (zaV (Tryz.underlying35) rfl) ?_
   refine gQ (zbL rfl rfl) ?_
   refine zag (zae (T':=[(2,_),(3,_),(98,_)]) ⟨rfl,rfl,rfl,trivial⟩ ?_)
   refine zap rfl (fun hc98=>?_) (fun hc98=>?_)
   ·have h98:acc.length=0:=by have:=of_decide_eq_true hc98; omega
    refine zaa ?_
    refine zcg en91 rfl (fun w hw=>zdk _ w) ?_
    exact za6 (by rw [zci,hx7,zak,hx13,zak,hx17,zak,hx21,zak,hx25,zak,hx27,zak,hh6,zak,hx55,zak,hx59,zak,hx63,zak,hx68,zak,hx73,zak,hx75,zak,hx78,zak,hx85,zak,hx90,zak,hx94,zak]; exact if_pos h98)
   ·have h98:¬ acc.length=0:=by have:=of_decide_eq_false hc98; omega
    refine zaq ?_
    refine zac ?_
    refine zaa ?_
    refine gQ (zat 1 tf41 rfl rfl (vs:=[_,_,_,_,_,_,_,_,_,_,_,_,_,_,_,_,_,_,_,_]) rfl rfl) ?_
    refine zbz 4 tf41 rfl rfl (vs:=[_,_,_,_,_,_,_,_,_,_,_,_,_,_,_,_,_,_,_,_]) rfl rfl rfl rfl rfl ?_
    refine zag (zae (T':=[(2,_)]) ⟨rfl,trivial⟩ ?_)
    refine zao 3 rfl ?_
    refine zao 1 rfl ?_
    refine zbT 2 ?_
    refine zaw ?_
    exact zdm (⟨x7.1,x13.1.getD 0 0,x17.1.getD 0 0,x21.1.getD 0 0,x25.1.getD 0 0,acc,x55.1.getD 0 0,x59.1.getD 0 0,x63.1.getD 0 0,x68.1.getD 0 0,(x68.1.drop 1).getD 0 0,x73.1.getD 0 0,(x73.1.drop 1).getD 0 0,x78.1,x85.1.getD 0 0,(x85.1.drop 1).getD 0 0,((x85.1.drop 1).drop 1).getD 0 0,x90.1.getD 0 0,(x90.1.drop 1).getD 0 0,x94.1.getD 0 0⟩,x94.2) (ha,hc) 0 (zaC rfl (zbU (i:=3) (vs:=[.string x7.1,.int .i64 ((x13.1).getD 0 0),.int .i64 ((x17.1).getD 0 0),.int .i64 ((x21.1).getD 0 0),.int .i64 ((x25.1).getD 0 0),.slice ha acc.length hc,.int .i64 ((x55.1).getD 0 0),.int .i64 ((x59.1).getD 0 0),.int .i64 ((x63.1).getD 0 0),.int .i64 ((x68.1).getD 0 0),.int .i64 (((x68.1.drop 1)).getD 0 0),.int .i64 ((x73.1).getD 0 0),.int .i64 (((x73.1.drop 1)).getD 0 0),.int .u8 x78.1,.int .i64 ((x85.1).getD 0 0),.int .i64 (((x85.1.drop 1)).getD 0 0),.int .i64 ((((x85.1.drop 1).drop 1)).getD 0 0),.int .i64 ((x90.1).getD 0 0),.int .i64 (((x90.1.drop 1)).getD 0 0),.int .i64 ((x94.1).getD 0 0)]) tf41 rfl rfl rfl rfl)) rfl rfl (by rw [zci,hx7,zak,hx13,zak,hx17,zak,hx21,zak,hx25,zak,hx27,zak,hh6,zak,hx55,zak,hx59,zak,hx63,zak,hx68,zak,hx73,zak,hx75,zak,hx78,zak,hx85,zak,hx90,zak,hx94,zak]; exact if_neg h98)
end Go.Proofs.YtdcfcfhmkfkgmaaGreatDoor
namespace Go.K
open Go Go.RowKit
def zu2 (P:Program) (f:FuncId) (cap:List Value) (xs:List (List Value)) (O S:Res):Prop:=
 ∀ {X:Type} (J:X→Res) (Rl:Nat→X→Prop) (D:X→Prop) (l:Nat) (w:World) (B C:Nat→Prop) (x0:X),(∀ k,B k→k < w.heap.size)→(∀ k,C k→k < w.heap.size∧¬ B k)→(J x0).A B w→O.A C w→Rl 0 x0→Rd (fun k=>k < w.heap.size∧¬ (B k∨C k)) w S →
  (∀ i x args,xs[i]?=some args→Rl i x→zoO P w (fun k=>B k∨C k) l args J x (fun b x'=>if b=true then Rl (i+1) x' else D x')) →
  Calls P f (Value.func (.yield l) #[] #[] :: cap).toArray w (zho (fun _=>.tuple #[]) J (fun x=>Rl xs.length x∨D x) (fun k=>B k∨C k) w)
theorem zsg {R S:Res} {B C:Nat→Prop} {w:World} (h1:R.A B w) (h2:S.A C w) (hd:∀ k,C k→¬ B k):(SepR [R,S]).A (fun k=>B k∨C k) w:=
 ⟨B,C,fun _ h=>.inl h,fun k h=>⟨.inr h,hd k h⟩,h1,C,fun _=>False,fun _ h=>h,fun _ h=>h.elim,h2,trivial⟩
theorem zj0 {c:Cx} {ds:List Deferred} {p:Post} {T:List (Nat×Value)} {H:List Res} {g:Operand} {ps:List Tmp} {assign body:Code} {f:FuncId} {cap:List Value} {xs:List (List Value)} {O S:Res} {X:Type}
  (Hf:X→List Res) (Rl:Nat→X→Prop) (Dr:X→Prop) (exs:List (Nat×(X→Prop))) (x0:X)
  (hr:c.r=none) (he:En c.P f) (hg:evo T g=some (.func (.func f) #[] cap.toArray)) (hH:O :: Hf x0=H) (h0:Rl 0 x0)
  (hseq:zu2 c.P f cap xs O S) (hSR:Rd c.U c.w0 S) (hps:∀ a∈xs,a.length=ps.length) (hpn':ps.all (fun t=>Nat.blt t c.n)=true)
  (hbody:∀ (R1 R2:Res) (l:Nat) (U':Nat→Prop) (w':World) (i:Nat) (x:X) (args:List Value),xs[i]?=some args→Rl i x →
   (∀ S,Rd c.U c.w0 S→Rd U' w' S)→Inside c.U c.w0 ⟨some l,c.P,c.n,U',w'⟩→(∀ T' H' K,GK ⟨some l,c.P,c.n,U',w'⟩ [] K T' (R2 :: H')→GK ⟨some l,c.P,c.n,U',w'⟩ [] (Beg c.P l K) T' (R1 :: H')) →
   GK ⟨some l,c.P,c.n,U',w'⟩ [] (KC ⟨some l,c.P,c.n,U',w'⟩ assign { nrm:=Beg c.P l (KC ⟨some l,c.P,c.n,U',w'⟩ body (zqC ⟨some l,c.P,c.n,U',w'⟩ R2 Hf (Rl (i+1)) Dr exs)),ret:=fun _ _=>False,ex:=[] }) (zipT ps args T) (R1 :: Hf x))
  (hnext:∀ D x,Rl xs.length x→GK c (mark D :: ds) p.nrm T (Dfr D :: Hf x))
  (hret:∀ D x,Dr x→GK c (mark D :: ds) p.ret T (Dfr D :: Hf x))
  (hex:∀ D x id Q,(id,Q)∈exs→Q x→∃ K,lke p.ex id=some K∧GK c (mark D :: ds) K T (Dfr D :: Hf x)) :
  GK c ds (KC c (.rangeFunc g ps.toArray assign body) p) T H:=by
 subst hH
 have hpn:∀ t∈ps,t < c.n:=fun t ht=>Nat.le_of_ble_eq_true (List.all_eq_true.1 hpn' t ht)
 intro a w ha hw
 show(Code.rangeFunc g ps.toArray assign body).wpIn (FW c.r) 0 c.P p.Q a w
 rw [hr]
 refine wpIn_rangeFunc ?_
 intro fn hfn
 let D:=w.heap.size
 let l:=w.heap.size+1
 let rec_:LoopState→Option Code→Res:=fun st pe=>SepR [Rec l st pe fn a.tmps ps.toArray assign body D,Dfr D]
 obtain⟨W1,hW1⟩:∃ W1,W1=(w.alloc (.deferred (some []))).alloc (.loop { state:=.ready,pending:=none,fn:=fn,tmps:=a.tmps,params:=ps.toArray,assign:=assign,body:=body,defers:=D }):=⟨_,rfl⟩
 have hdef:Hp c.U c.w0 (Dfr D :: O :: Hf x0) (w.alloc (.deferred (some []))):=
  hw.new (zcG _) (B:=fun k=>k=D) (fun k hk=>by subst hk; exact⟨Nat.le_refl _,by simp [D]⟩) ⟨fun _=>Iff.rfl,World.alloc_heap_new w _⟩
 have hrec:Hp c.U c.w0 (Rec l .ready none fn a.tmps ps.toArray assign body D :: Dfr D :: O :: Hf x0) W1:=by
  rw [hW1]
  refine hdef.new (zcG _) (B:=fun k=>k=l) (fun k hk=>by subst hk; exact⟨by simp [l],by simp [l]⟩) ⟨fun _=>Iff.rfl,?_⟩
  have:=World.alloc_heap_new (w.alloc (.deferred (some []))) (.loop { state:=.ready,pending:=none,fn:=fn,tmps:=a.tmps,params:=ps.toArray,assign:=assign,body:=body,defers:=D })
  rwa [World.size_alloc] at this
 have hst:Hp c.U c.w0 (O :: rec_ .ready none :: Hf x0) W1:=(Hp.pack (L:=[_,_]) hrec).swap
 obtain⟨C,hC,hAO,hrest⟩:=hst.holds
 let J:X×LoopState×Option Code→Res:=fun z=>SepR (rec_ z.2.1 z.2.2 :: Hf z.1)
 have hJ:∃ B,(∀ k,B k→¬ (c.U k∨C k)∧k < W1.heap.size)∧(J (x0,.ready,none)).A B W1:=zdi _ _ hrest
 obtain⟨B0,hB0,hA⟩:=hJ
 let B:Nat→Prop:=fun k=>B0 k∨C k
 have hB:∀ k,B k→¬ c.U k∧k < W1.heap.size:=fun k hk=>hk.elim (fun h=>⟨fun hu=>(hB0 k h).1 (.inl hu),(hB0 k h).2⟩) (hC k)
 have hSR':Rd (fun k=>k < W1.heap.size∧¬ (B0 k∨C k)) W1 S:=by
  obtain⟨E,hE,hSA⟩:=hSR
  have hbase:Base c.U c.w0 W1:=hst.base
  exact⟨E,fun k hk=>⟨Nat.lt_of_lt_of_le (hbase.lt k (hE k hk)) hbase.size,fun h=>h.elim (fun h=>(hB0 k h).1 (.inl (hE k hk))) (fun h=>(hC k h).1 (hE k hk))⟩,S.loc E c.w0 W1 (fun k hk=>hbase.same k (hE k hk)) hSA⟩
 have hcalls:=hseq J (fun i z=>z.2.1=.ready∧z.2.2=none∧Rl i z.1)
  (fun z=>z.2.1=.done∧((z.2.2=some .ret∧Dr z.1)∨∃ id Q,z.2.2=some (.exit id)∧(id,Q)∈exs∧Q z.1))
  l W1 B0 C (x0,.ready,none) (fun k hk=>(hB0 k hk).2) (fun k hk=>⟨(hC k hk).2,fun h=>(hB0 k h).1 (.inr hk)⟩) hA hAO ⟨rfl,rfl,h0⟩ hSR' ?rounds
 case rounds=>
  rintro i ⟨x,st,pe⟩ args hargs ⟨hst1,hst2,hR⟩
  simp only at hst1 hst2 hR
  subst hst1; subst hst2
  intro w' B' hm ho hlt hA'
  have hp1:Hp (fun k=>k < w'.heap.size∧¬ B' k) w' (rec_ .ready none :: Hf x) w':=
   ⟨⟨rfl,Tp.same _,rfl,Nat.le_refl _,fun _ h=>h.1,fun _ _=>rfl⟩,zcQ _ _ B' (fun k hk=>⟨fun h=>h.2 hk,hlt k hk⟩) hA'⟩
  have hl:=(zhi (st':=.ready) (pe':=none) hp1).1
  have hy:=run_yield (P:=c.P) (args:=args.toArray) hl (by simp [hps args (List.mem_of_getElem? hargs)])
  refine⟨_,_,_,_,hy,roundIn_of_wpIn trivial ?_⟩
  have hb:=hbody (rec_ .ready none) (rec_ .busy none) l (fun k=>k < w'.heap.size∧¬ B' k) w' i x args hargs hR ?rd ?ins ?beg
  case ins=>
   have hb':Base c.U c.w0 w':=hst.base.mod hm (fun k hk=>(hB k hk).1)
   refine⟨fun k hk=>⟨Nat.lt_of_lt_of_le (hb'.lt k hk) hb'.size,fun hbk=>?_⟩,hb'⟩
   rcases ho k hbk with hb2 | ⟨h1,_⟩
   ·exact(hB k hb2).1 hk
   ·have:=hst.base.lt k hk; have:=hst.base.size; omega
  case rd=>
   rintro S ⟨C,hC,hS⟩
   have hb':Base c.U c.w0 w':=hst.base.mod hm (fun k hk=>(hB k hk).1)
   refine⟨C,fun k hk=>⟨Nat.lt_of_lt_of_le (hb'.lt k (hC k hk)) hb'.size,fun hbk=>?_⟩,S.loc C c.w0 w' (fun k hk=>hb'.same k (hC k hk)) hS⟩
   rcases ho k hbk with hb2 | ⟨h1,_⟩
   ·exact(hB k hb2).1 (hC k hk)
   ·have:=hst.base.lt k (hC k hk); have:=hst.base.size; omega
  case beg=>
   intro T' H' K hK a1 w1 ha1 hw1
   obtain⟨hl1,hw2⟩:=zhi (st':=.busy) (pe':=none) hw1
   exact⟨_,run_beginRound hl1 rfl,hK a1 _ ha1 hw2⟩
  have hs:=zmy ps args T a.tmps hpn (Sat.mk ha.size ha.val rfl)
  have hwalk:=hb _ w' hs hp1
  have harr:((ps.toArray.zip args.toArray).foldl (fun tmps (t,a)=>tmps.setIfInBounds t a) a.tmps)=(ps.zip args).foldl (fun t (p,v)=>t.setIfInBounds p v) a.tmps:=by
   rw [List.zip_toArray,List.foldl_toArray]
  rw [harr]
  refine Go.wpIn_mono hwalk ?_
  intro e a1 w1 hq
  cases e with
  | normal=>
   obtain⟨w2,hbr,hwb⟩:=hq
   refine⟨w2,hbr,Go.wpIn_mono hwb ?_⟩
   intro e a2 w2 hq2
   have fin:∀ (x':X) (j:Option Code),Hp (fun k=>k < w'.heap.size∧¬ B' k) w' (rec_ .busy none :: Hf x') w2→∃ w4,(Instr.endRound l j).run c.P w2=.ok (.bool j.isNone) w4 ∧
     ∃ B'',Mod B' w' w4∧Own B' B'' w' w4∧(J (x',(if j.isNone then .ready else .done),j)).A B'' w4:=by
    intro x' j hw2
    obtain⟨hl2,hw4⟩:=zhi (st':=if j.isNone then .ready else .done) (pe':=j) hw2
    refine⟨_,run_endRound j hl2,?_⟩
    obtain⟨B'',hB'',hA''⟩:=zdi _ _ hw4.holds
    refine⟨B'',⟨hw4.base.os,hw4.base.tape,hw4.base.output,hw4.base.size,fun k hk hb=>hw4.base.same k ⟨hk,hb⟩⟩,fun k hk=>?_,hA''⟩
    by_cases hbk:B' k
    ·exact .inl hbk
    ·exact .inr ⟨Nat.le_of_not_lt fun hlt=>(hB'' k hk).1 ⟨hlt,hbk⟩,(hB'' k hk).2⟩
   cases e with
   | normal=>
    obtain⟨x',_,hw3,hN⟩:=hq2
    obtain⟨w4,hend,B'',hm4,ho4,hA4⟩:=fin x' none hw3
    exact⟨_,w4,hend,true,(x',.ready,none),B'',rfl,(if_pos rfl).mpr ⟨rfl,rfl,hN⟩,hm4,ho4,hA4⟩
   | ret=>
    obtain⟨x',_,hw3,hD⟩:=hq2
    obtain⟨w4,hend,B'',hm4,ho4,hA4⟩:=fin x' (some .ret) hw3
    exact⟨_,w4,hend,false,(x',.done,some .ret),B'',rfl,(if_neg Bool.false_ne_true).mpr ⟨rfl,.inl ⟨rfl,hD⟩⟩,hm4,ho4,hA4⟩
   | exit id=>
    change (match lke (exs.map fun e=>(e.1,Join _ [] (fun _=>[]) (fun x=>rec_ .busy none :: Hf x) e.2)) id with | some K=>K a2 w2 | none=>False) at hq2
    cases hk:lke (exs.map fun e=>(e.1,Join _ [] (fun _=>[]) (fun x=>rec_ .busy none :: Hf x) e.2)) id with
    | none=>rw [hk] at hq2; exact hq2.elim
    | some K=>
     rw [hk] at hq2
     obtain⟨Q,hmem,rfl⟩:=zmk (fun Q=>Join _ [] (fun _=>[]) (fun x=>rec_ .busy none :: Hf x) Q) exs id K hk
     obtain⟨x',_,hw3,hD⟩:=hq2
     obtain⟨w4,hend,B'',hm4,ho4,hA4⟩:=fin x' (some (.exit id)) hw3
     exact⟨_,w4,hend,false,(x',.done,some (.exit id)),B'',rfl,(if_neg Bool.false_ne_true).mpr ⟨rfl,.inr ⟨id,Q,rfl,hmem,hD⟩⟩,hm4,ho4,hA4⟩
   | goto t=>exact hq2.elim
   | panic ch=>exact hq2.elim
   | outgrown=>exact hq2.elim
  | ret=>exact hq.elim
  | exit id=>exact hq.elim
  | goto t=>exact hq.elim
  | panic ch=>exact hq.elim
  | outgrown=>exact hq.elim
 refine⟨l,[mark D],W1,{ target:=.fn (.func f) cap.toArray,args:=#[.func (.yield l) #[] #[]] },W1,f,#[.func (.yield l) #[] #[]]++cap.toArray,W1,?_,?_,fun _ _=>trivial,?_,fun h=>by simp [FW] at h,?_⟩
 ·rw [hW1]; exact run_enterLoop_outer _ _ _ _ _
 ·simp only [resolve,ha.eval hg,Deferred.ofValue]
  simp [pure,Act.eval]
 ·exact he _ W1
 ·refine zfz.2 ?_
  have e2:(#[Value.func (.yield l) #[] #[]]++cap.toArray:Array Value)=(Value.func (.yield l) #[] #[] :: cap).toArray:=by simp
  rw [e2]
  refine hcalls.mono ?_
  rintro e w3 ⟨⟨x',st,pe⟩,B',rfl,hQ,hm,ho,hA'⟩
  have hlt':∀ k,B' k→k < w3.heap.size:=fun k hk=>by
   rcases ho k hk with hb | ⟨_,h2⟩
   ·exact Nat.lt_of_lt_of_le (hB k hb).2 hm.size
   ·exact h2
  have hw3:Hp c.U c.w0 (rec_ st pe :: Hf x') w3:=⟨hst.base.mod hm (fun k hk=>(hB k hk).1),zcQ _ _ B' (fun k hk=>⟨fun hu=>by
   rcases ho k hk with hb | ⟨h1,_⟩
   ·exact(hB k hb).1 hu
   ·have:=hst.base.lt k hu; have:=hst.base.size; omega,hlt' k hk⟩) hA'⟩
  obtain⟨hl3,hw4⟩:=zhi (st':=.exhausted) (pe':=pe) hw3
  have hnb:st≠.busy:=by rcases hQ with ⟨h,_⟩ | ⟨h,_⟩ <;> (simp only at h; subst h; decide)
  refine⟨pe,_,run_endLoop hl3 hnb,?_⟩
  have hw5:Hp c.U c.w0 (Dfr D :: Hf x') _:=(Hp.split (L:=[_,_]) hw4).drop
  have ha5:Sat c.n T (mark D :: ds) { a with defers:=[mark D]++a.defers }:=⟨ha.size,ha.val,by simp [ha.defers]⟩
  rcases hQ with ⟨_,h2,h3⟩ | ⟨_,⟨h2,h3⟩ | ⟨id,Q,h2,h3,h4⟩⟩
  ·simp only at h2 h3; subst h2
   exact hnext D x' h3 _ _ ha5 hw5
  ·simp only at h2 h3; subst h2
   exact wpIn_ret (hret D x' h3 _ _ ha5 hw5)
  ·simp only at h2 h4; subst h2
   obtain⟨K,hk,hG⟩:=hex D x' id Q h3 h4
   exact wpIn_exit (by show(match lke p.ex id with | some K=>K _ _ | none=>False); rw [hk]; exact hG _ _ ha5 hw5)
end Go.K
namespace Go.K
open Go Go.RowKit
def zi5 {X M:Type} (te:TypeId) (res:Except Int X) (V:X→M→Value) (J:X→M→Res) (E:Res) (B:Nat→Prop) (w:World):Ending→World→Prop:=fun e w'=>
 match res with
 | .ok x=>∃ m B',e=.returned (V x m)∧Mod B w w'∧Own B B' w w'∧(J x m).A B' w'
 | .error k=>∃ B',e=.panicked (thrC (errT te k))∧Mod B w w'∧Own B B' w w'∧E.A B' w'
section
variable {c:Cx} {ds:List Deferred} {p:Post} {T:List (Nat×Value)} {H:List Res} {ops:Array Oper} {rest:List Oper} {d:Option Nat} {ty:TypeId} {ps:String} {af:Array Edge}
theorem zie {X M:Type} {te:TypeId} {res:Except Int X} {V:X→M→Value} {J:X→M→Res} {E R:Res} {t:Nat} {f:FuncId} (i:Nat) (he:En c.P f) {fs cap:List Value} (hf:evo T (.tmp t)=some (.func (.func f) fs.toArray cap.toArray)) {os:List Operand} {tys:Array TypeId} {vs:List Value} (hn:zhp d c.n=true) (ha:evs T os=some vs) (hi:H[i]?=some R)
  (hc:∀ w B,Foc c H i R B w→Calls c.P f (fs++vs++cap).toArray w (zi5 te res V J E B w))
  (kt:∀ k,res=.error k→GK c ds (fun a w=>p.pn a (thrC (errT te k)) w) T (H.set i E))
  (k:∀ x m,res=.ok x→GK c ds (KL c ops p rest) (putT d (V x m) T) (H.set i (J x m))) :
  GK c ds (KL c ops p (⟨d,.call ⟨.value (.tmp t),os.toArray,tys⟩,ty,ps,af,none⟩ :: rest)) T H:=by
 refine zk0 rfl rfl fun a w hs hw=>?_
 obtain⟨B,hF⟩:=hw.foc hi
 unfold YldT
 rw [zgE he hf ha hs w]
 have:=hc w B hF
 rw [show(fs++vs++cap).toArray=fs.toArray++vs.toArray++cap.toArray from by simp] at this
 refine this.mono ?_
 intro e w' he'
 cases hres:res with
 | ok x=>
  rw [hres] at he'
  obtain⟨m,B',rfl,hm,ho,hA⟩:=he'
  exact .inl ⟨V x m,rfl,k x m hres _ _ (hs.putT hn _) (hF.upd hi hm ho hA)⟩
 | error q=>
  rw [hres] at he'
  obtain⟨B',rfl,hm,ho,hA⟩:=he'
  exact .inr ⟨_,rfl,kt q hres a w' hs (hF.upd hi hm ho hA)⟩
end
section
variable {P:Program} {n:Nat} {w0:World} {B:Nat→Prop} {T:List (Nat×Value)} {H:List Res} {fn:Func} {X M:Type} {te:TypeId} {res:Except Int X} {V:X→M→Value} {J:X→M→Res} {E:Res}
theorem zik {v:Value} (x:X) (m:M) (i:Nat) (hv:RV (cxB P n w0 B) [] T H fn v) (hu:v=V x m) (hi:H[i]?=some (J x m)) (hq:res=.ok x) :
  GK (cxB P n w0 B) [] (RetP P fn (zi5 te res V J E B w0)) T H:=zfh hv fun w hw=>by
 obtain⟨B',h1,h2,_,h3⟩:=zet hw hi
 subst hq
 exact⟨m,B',by rw [hu],h1,h2,h3⟩
theorem zbG {k:Int} {R:Res} (i:Nat) (hi:H[i]?=some R) (hR:∀ B w,R.A B w→E.A B w) (hq:res=.error k):GK (cxB P n w0 B) [] (fun a w=>(poOf P fn (zi5 te res V J E B w0)).pn a (thrC (errT te k)) w) T H:=
 zij (c:=cxB P n w0 B) fun w hw=>by
  obtain⟨B',h1,h2,_,h3⟩:=zet hw hi
  subst hq
  exact⟨B',rfl,h1,h2,hR _ _ h3⟩
end
end Go.K
namespace Go.Pln
open Go Go.K Go.RowKit Go.Stn
structure PTy where
 p:TypeId
 s:TypeId
 w:TypeId
 i:TypeId
 o:TypeId
def plH (y:PTy) (p:Nat) (sa:Option Addr) (sc:Nat) (S:List ShC) (wa:Option Addr) (wc:Nat) (V:List WlC):List Res:=
 [Box p [.slice sa S.length sc,.slice wa V.length wc] y.p,Row sa 20 sc y.s zbH S,Go.K.Rows (rowH y.i) S,Row wa 4 wc y.w zbS V,Go.K.Rows (rowO y.o) V]
def PlE (y:PTy) (p:Nat) (q:Plan):Res where
 A B w:=∃ (sa:Option Addr) (sc:Nat) (S:List ShC) (wa:Option Addr) (wc:Nat) (V:List WlC),S.map (·.s)=q.S∧V.map (·.s)=q.V∧(SepR (plH y p sa sc S wa wc V)).A B w
 loc B w w' h hA:=let ⟨sa,sc,S,wa,wc,V,h1,h2,h3⟩:=hA; ⟨sa,sc,S,wa,wc,V,h1,h2,(SepR (plH y p sa sc S wa wc V)).loc B w w' h h3⟩
def plAt (y:PTy) (p:Nat):Res where
 A B w:=∃ B':Nat→Prop,(∀ k,B' k→B k)∧∃ (a:Option Addr) (n c:Nat) (b:Option Addr) (m d:Nat),(Box p [.slice a n c,.slice b m d] y.p).A B' w
 loc _B w w' h hA:=let ⟨B',h1,a,n,c,b,m,d,h2⟩:=hA; ⟨B',h1,a,n,c,b,m,d,(Box p [.slice a n c,.slice b m d] y.p).loc B' w w' (fun k hk=>h k (h1 k hk)) h2⟩
def plOr (y:PTy) (p:Nat):Except Int Plan→Res
 | .ok q=>PlE y p q
 | .error _=>plAt y p
theorem zdy {y:PTy} {p:Nat} {q:Plan} (B:Nat→Prop) (w:World) (hA:(PlE y p q).A B w):(plAt y p).A B w:=by
 obtain⟨sa,sc,S,wa,wc,V,_,_,C,E,h1,_,h3,_⟩:=hA
 exact⟨C,h1,sa,_,sc,wa,_,wc,h3⟩
theorem zeb {y:PTy} {p:Nat} {a b:Option Addr} {n c m d:Nat} (B:Nat→Prop) (w:World) (hA:(Box p [.slice a n c,.slice b m d] y.p).A B w):(plAt y p).A B w:=
 ⟨B,fun _ h=>h,a,n,c,b,m,d,hA⟩
theorem zmt {y:PTy} {p:Nat} (B:Nat→Prop) (w:World) (hA:(plAt y p).A B w):(plAt y p).A B w:=hA
section
variable {c:Cx} {ds:List Deferred} {T:List (Nat×Value)} {H:List Res} {K:Act→World→Prop} {y:PTy} {p:Nat} {q:Plan}
theorem zgq (h:∀ (sa:Option Addr) (sc:Nat) (S:List ShC) (wa:Option Addr) (wc:Nat) (V:List WlC),S.map (·.s)=q.S→V.map (·.s)=q.V→GK c ds K T (plH y p sa sc S wa wc V++H)):GK c ds K T (PlE y p q :: H):=by
 intro a w ha hw
 obtain⟨hb,B,hB,⟨sa,sc,S,wa,wc,V,h1,h2,h3⟩,hr⟩:=hw
 exact h sa sc S wa wc V h1 h2 a w ha (Hp.split ⟨hb,B,hB,h3,hr⟩)
theorem zpP (h:∀ (a:Option Addr) (n m:Nat) (b:Option Addr) (e d:Nat),GK c ds K T (Box p [.slice a n m,.slice b e d] y.p :: H)):GK c ds K T (plAt y p :: H):=by
 intro a w ha hw
 obtain⟨hb,B,hB,⟨B',h1,x,n,m,b,e,d,h2⟩,hr⟩:=hw
 exact h x n m b e d a w ha ⟨hb,B',fun k hk=>hB k (h1 k hk),h2,Holds.anti H (fun k hk=>hk.elim .inl (fun h=>.inr (h1 k h))) hr⟩
theorem zgU {sa:Option Addr} {sc:Nat} {S:List ShC} {wa:Option Addr} {wc:Nat} {V:List WlC} (h1:S.map (·.s)=q.S) (h2:V.map (·.s)=q.V) (h:GK c ds K T (PlE y p q :: H)):GK c ds K T (plH y p sa sc S wa wc V++H):=by
 intro a w ha hw
 obtain⟨hb,B,hB,h3,hr⟩:=Hp.pack (L:=plH y p sa sc S wa wc V) (H:=H) hw
 exact h a w ha ⟨hb,B,hB,⟨sa,sc,S,wa,wc,V,h1,h2,h3⟩,hr⟩
end
theorem zkD {w:World} {R:Res}:∀ (X:List Res) (B:Nat→Prop),All (X++[R]) B w→∃ C D:Nat→Prop,(∀ k,C k→B k)∧(∀ k,D k→B k∧¬ C k)∧All X C w∧R.A D w
 | [],B,⟨C,E,h1,h2,hA,_⟩=>⟨fun _=>False,C,fun _ h=>h.elim,fun k hk=>⟨h1 k hk,fun h=>h⟩,trivial,hA⟩
 | S :: X,B,⟨C,E,h1,h2,hA,hr⟩=>by
  obtain⟨C',D,g1,g2,g3,g4⟩:=zkD X E hr
  refine⟨fun k=>C k∨C' k,D,fun k hk=>hk.elim (h1 k) (fun h=>(h2 k (g1 k h)).1),fun k hk=>⟨(h2 k (g2 k hk).1).1,fun h=>h.elim (h2 k (g2 k hk).1).2 (g2 k hk).2⟩,⟨C,C',fun k hk=>.inl hk,fun k hk=>⟨.inr hk,(h2 k (g1 k hk)).2⟩,hA,g3⟩,g4⟩
theorem zsh {α:Type} [Inhabited α] {V:List α} {x:α} (h:0 < V.length):V.set (V.length - 1) x=V.take (V.length - 1)++[x]:=by
 rw [List.set_eq_take_append_cons_drop,if_pos (by omega),List.drop_of_length_le (by omega)]
theorem zqS {α:Type} [Inhabited α] {V:List α} (h:0 < V.length):V=V.take (V.length - 1)++[V.getD (V.length - 1) default]:=by
 have h1:V.drop (V.length - 1)=[V.getD (V.length - 1) default]:=by
  rw [List.drop_eq_getElem_cons (by omega),List.drop_of_length_le (by omega)]
  simp [show V.length - 1 < V.length by omega]
 conv=>lhs; rw [←List.take_append_drop (V.length - 1) V,h1]
theorem zqE {α:Type} [Inhabited α] {f:α→Res} {V:List α} {B:Nat→Prop} {w:World} (h:0 < V.length) (hA:(Go.K.Rows f V).A B w):(SepR [Go.K.Rows f (V.take (V.length - 1)),f (V.getD (V.length - 1) default)]).A B w:=by
 have h2:All (V.map f) B w:=hA
 rw [zqS h,List.map_append] at h2
 obtain⟨C,D,g1,g2,g3,g4⟩:=zkD _ _ h2
 exact⟨C,D,g1,g2,g3,D,fun _=>False,fun _ h=>h,fun _ h=>h.elim,g4,trivial⟩
theorem zsc {α:Type} [Inhabited α] {f:α→Res} {V:List α} {x:α} {B:Nat→Prop} {w:World} (h:0 < V.length) (hA:(SepR [Go.K.Rows f (V.take (V.length - 1)),f x]).A B w):(Go.K.Rows f (V.set (V.length - 1) x)).A B w:=by
 rw [zsh h]
 exact zfr hA
end Go.Pln
namespace Go.Proofs.YtdcfcfhmkfkgmaaGreatDoor
open Go.K Go.Stn Go.Pln Go.RowKit
theorem tf31:TF Tryz.prog 31 true 2 (.agg #[.slice none 0 0,.slice none 0 0]):=⟨by kernel_rfl,by kernel_rfl⟩
theorem zg6:TF Tryz.prog 157 false 1 (.pointer none):=⟨by kernel_rfl,by kernel_rfl⟩
theorem af28:AF Tryz.prog 28 41 20 184 [.string ⟨#[]⟩,.int IntKind.i64 0,.int IntKind.i64 0,.int IntKind.i64 0,.int IntKind.i64 0,.slice none 0 0,.int IntKind.i64 0,.int IntKind.i64 0,.int IntKind.i64 0,.int IntKind.i64 0,.int IntKind.i64 0,.int IntKind.i64 0,.int IntKind.i64 0,.int IntKind.u8 0,.int IntKind.i64 0,.int IntKind.i64 0,.int IntKind.i64 0,.int IntKind.i64 0,.int IntKind.i64 0,.int IntKind.i64 0]:=⟨Tryz.underlying28,by kernel_rfl,rfl⟩
theorem en46:En Tryz.prog 46:=za7 Tryz.func46 (by kernel_rfl) (by kernel_rfl)
theorem zw3:En Tryz.prog 110:=za7 Tryz.func110 (by kernel_rfl) (by kernel_rfl)
theorem ztF:En Tryz.prog 111:=za7 Tryz.func111 (by kernel_rfl) (by kernel_rfl)
theorem zsC (x0:ShC) (w:World):(Instr.buildSlice 28 1 #[(0,.agg #[.string x0.s.name,.int .i64 x0.s.base,.int .i64 x0.s.batter,.int .i64 x0.s.height,.int .i64 x0.s.skin,.slice x0.a x0.s.heights.length x0.cap,.int .i64 x0.s.least,.int .i64 x0.s.lap,.int .i64 x0.s.run,.int .i64 x0.s.every,.int .i64 x0.s.at_,.int .i64 x0.s.footing,.int .i64 x0.s.spread,.int .u8 x0.s.cope,.int .i64 x0.s.tall,.int .i64 x0.s.short,.int .i64 x0.s.thick,.int .i64 x0.s.low,.int .i64 x0.s.high,.int .i64 x0.s.rood])]).run Tryz.prog w=.ok (.slice (some ⟨w.heap.size,0,none⟩) 1 1) (w.alloc (.cells (([x0]:List (ShC)).flatMap zbH).toArray 41)):=by kernel_rfl
abbrev yP:PTy:=⟨31,41,94,3,98⟩
abbrev PlP (p:Nat) (q:Plan):Res:=PlE yP p q
set_option maxRecDepth 100000 in
set_option maxHeartbeats 8000000 in
theorem ztS (r:Nat) (ws:List ByteArray) (p:Nat) (q:Plan) (bp:Nat) (w:World) (B:Nat→Prop) (hB:∀ k,B k→k < w.heap.size) (hA:(SepR [Rdr 161 r ws,PlP p q]).A B w) (hq:OkQ q) (hb:Rd (fun k=>k < w.heap.size∧¬ B k) w (Box bp [.pointer (some ⟨p,0,none⟩)] 157)) (hws:ws.length≤100000) (hcp:Rd (fun k=>k < w.heap.size∧¬ B k) w (zaW (some ⟨0,0,none⟩) 1 encS copesW)) :
  Calls Tryz.prog 109 #[.pointer (some ⟨r,0,none⟩),.pointer (some ⟨bp,0,none⟩)] w (zi5 33 (zb3 q ws) (fun _x (_:Unit)=>.tuple #[]) (fun x _=>PlP p x) (plAt yP p) B w):=by
 refine zby hB hA (vs:=[_,_]) Tryz.func109 rfl rfl (Nat.le_of_ble_eq_true rfl) ?_
 refine zbP ?_
 refine zac ?_
 refine zaa ?_
 refine gQ (zaf rfl) ?_
 refine zbZ (res:=zci ws) 0 zw3 rfl rfl rfl (fun w B hF=>zuH r ws w B (fun k hk=>(hF.own k hk).2) hF.A hws (hF.rd hcp)) (fun k hk7=>?_) (fun x7 m7 hx7=>?_)
 ·
  exact zbG 1 rfl zdy (by rw [zb3,hk7]; first | done | rfl)
 refine zbP ?_
 refine zaG rfl rfl (zaL tf41 (zs:=[_,_,_,_,_,_,_,_,_,_,_,_,_,_,_,_,_,_,_,_]) rfl) fun b3=>?_
 refine zbz 0 tf41 rfl rfl (vs:=[_,_,_,_,_,_,_,_,_,_,_,_,_,_,_,_,_,_,_,_]) rfl rfl rfl rfl rfl ?_
 refine zag (zae (T':=[(0,_),(1,_),(3,_)]) ⟨rfl,rfl,rfl,trivial⟩ ?_)
 refine zac ?_
 refine zaa ?_
 refine gQ (zaf rfl) ?_
 refine zbZ (res:=endE x7.2) 1 ztF rfl rfl rfl (fun w B hF=>ztK r x7.2 w B (fun k hk=>(hF.own k hk).2) hF.A) (fun k hk9=>?_) (fun x9 m9 hx9=>?_)
 ·
  exact zbG 3 rfl zdy (by rw [zb3,hx7,zak,hk9]; first | done | rfl)
 refine zag (zae (T':=[(1,_),(3,_)]) ⟨rfl,rfl,trivial⟩ ?_)
 refine zao 3 rfl ?_
 refine zgq fun sa sc S wa wc V hS hV=>?_
 have hlS:S.length=q.S.length:=by rw [←hS,List.length_map]
 have hlV:V.length=q.V.length:=by rw [←hV,List.length_map]
 have hq20:=hq.ls
 have hq50:=hq.lv
 refine zac ?_
 refine zf3 (ch [(9,Nat)]) 12 [0,1,3,0,8,31,63,127,127,0,767,2047] (fun _=>mixed) (by kernel_rfl) (zjK _ ⟨inferInstance,trivial⟩) ?_
 refine zbD (fun ρ=>zbW zg6 rfl (fun _ hw=>zaQ (Rd.has hb hw) rfl)) (fun ρ ρ' h=>by rfl) ?_
 refine zbD (fun ρ=>zbx rfl) (fun ρ ρ' h=>by rfl) ?_
 refine zbD (fun ρ=>zat 0 tf31 rfl rfl (vs:=[_,_]) rfl rfl) (fun ρ ρ' h=>by rfl) ?_
 refine zbD (fun ρ=>zab znb rfl) (fun ρ ρ' h=>by rfl) ?_
 refine zbD (fun ρ=>zah 5 tf9 rfl rfl rfl) (fun ρ ρ' h=>by rfl) ?_
 refine zbD (fun ρ=>zaJ en46 rfl (fun w hw=>zeu _ _ S _ _ _ x7.1.name w (zam zbI (hw.has (p:=1) rfl)) (by unfold zaP; omega))) (fun ρ ρ' h=>by rfl) ?_
 refine zbD (fun ρ=>zaf rfl) (fun ρ ρ' h=>by rfl) ?_
 refine zbD (fun ρ=>zaB rfl rfl) (fun ρ ρ' h=>by rfl) ?_
 refine zbD (fun ρ=>zaB rfl rfl) (fun ρ ρ' h=>by rfl) ?_
 refine zgB (fun ρ=>zaL tf41 (zs:=[_,_,_,_,_,_,_,_,_,_,_,_,_,_,_,_,_,_,_,_]) rfl) (fun ρ ρ' h=>⟨by rfl,by rfl⟩) ?_
 refine zlr (R:=fun ρ=>Box (ρ 9) [.string ⟨#[]⟩,.int .i64 0,.int .i64 0,.int .i64 0,.int .i64 0,.slice none 0 0,.int .i64 0,.int .i64 0,.int .i64 0,.int .i64 0,.int .i64 0,.int .i64 0,.int .i64 0,.int .u8 0,.int .i64 0,.int .i64 0,.int .i64 0,.int .i64 0,.int .i64 0,.int .i64 0] 41) (A:=fun ρ=>Box (ρ 9) [.string (zav S x7.1.name).s.name,.int .i64 ((zav S x7.1.name).s.base),.int .i64 ((zav S x7.1.name).s.batter),.int .i64 ((zav S x7.1.name).s.height),.int .i64 ((zav S x7.1.name).s.skin),.slice (zav S x7.1.name).a (zav S x7.1.name).s.heights.length (zav S x7.1.name).cap,.int .i64 ((zav S x7.1.name).s.least),.int .i64 ((zav S x7.1.name).s.lap),.int .i64 ((zav S x7.1.name).s.run),.int .i64 ((zav S x7.1.name).s.every),.int .i64 ((zav S x7.1.name).s.at_),.int .i64 ((zav S x7.1.name).s.footing),.int .i64 ((zav S x7.1.name).s.spread),.int .u8 (zav S x7.1.name).s.cope,.int .i64 ((zav S x7.1.name).s.tall),.int .i64 ((zav S x7.1.name).s.short),.int .i64 ((zav S x7.1.name).s.thick),.int .i64 ((zav S x7.1.name).s.low),.int .i64 ((zav S x7.1.name).s.high),.int .i64 ((zav S x7.1.name).s.rood)] 41) 9 rfl rfl (fun _=>rfl) (fun ρ=>zex tf41 rfl rfl (vs:=[_,_,_,_,_,_,_,_,_,_,_,_,_,_,_,_,_,_,_,_]) rfl rfl rfl rfl rfl) (fun ρ ρ' h=>by(first | rfl | simp only [h 9 rfl])) ?_
 refine zbD (fun ρ=>zad rfl) (fun ρ ρ' h=>by rfl) ?_
 refine fun ρ=>zag (zf4 (X:=Nat) (ρ 9) (fun b4=>[(1,.pointer (some ⟨bp,0,none⟩)),(3,.pointer (some ⟨b3,0,none⟩)),(5,.bool (decide (0≤zaS S x7.1.name)))]) (fun b4=>[Box b4 [.string (zav S x7.1.name).s.name,.int .i64 ((zav S x7.1.name).s.base),.int .i64 ((zav S x7.1.name).s.batter),.int .i64 ((zav S x7.1.name).s.height),.int .i64 ((zav S x7.1.name).s.skin),.slice (zav S x7.1.name).a (zav S x7.1.name).s.heights.length (zav S x7.1.name).cap,.int .i64 ((zav S x7.1.name).s.least),.int .i64 ((zav S x7.1.name).s.lap),.int .i64 ((zav S x7.1.name).s.run),.int .i64 ((zav S x7.1.name).s.every),.int .i64 ((zav S x7.1.name).s.at_),.int .i64 ((zav S x7.1.name).s.footing),.int .i64 ((zav S x7.1.name).s.spread),.int .u8 (zav S x7.1.name).s.cope,.int .i64 ((zav S x7.1.name).s.tall),.int .i64 ((zav S x7.1.name).s.short),.int .i64 ((zav S x7.1.name).s.thick),.int .i64 ((zav S x7.1.name).s.low),.int .i64 ((zav S x7.1.name).s.high),.int .i64 ((zav S x7.1.name).s.rood)] 41,Box p [.slice sa S.length sc,.slice wa V.length wc] 31,Row sa 20 sc 41 zbH S,Go.K.Rows (rowH 3) S,Row wa 4 wc 94 zbS V,Go.K.Rows (rowO 98) V,Box b3 [.string x7.1.name,.int .i64 x7.1.base,.int .i64 x7.1.batter,.int .i64 x7.1.height,.int .i64 x7.1.skin,.slice m7.1 x7.1.heights.length m7.2,.int .i64 x7.1.least,.int .i64 x7.1.lap,.int .i64 x7.1.run,.int .i64 x7.1.every,.int .i64 x7.1.at_,.int .i64 x7.1.footing,.int .i64 x7.1.spread,.int .u8 x7.1.cope,.int .i64 x7.1.tall,.int .i64 x7.1.short,.int .i64 x7.1.thick,.int .i64 x7.1.low,.int .i64 x7.1.high,.int .i64 x7.1.rood] 41,Rdr 161 r x9.2,Row m7.1 1 m7.2 3 Go.Stn.encI x7.1.heights]) ⟨rfl,rfl,rfl,trivial⟩ rfl ?_)
 rintro b4
 refine zac ?_
 refine zas ?_
 refine zac ?_
 refine zaa ?_
 refine gQ (zaf rfl) ?_
 refine gQ (zad rfl) ?_
 refine zag (zae (T':=[(1,_),(3,_),(19,_)]) ⟨rfl,rfl,rfl,trivial⟩ ?_)
 refine zap rfl (fun hc19=>?_) (fun hc19=>?_)
 ·have h19:0≤zew q.S x7.1.name:=by have:=of_decide_eq_true hc19; rwa [zeL,hS] at this
  refine zaa ?_
  refine zcg en91 rfl (fun w hw=>zdk _ w) ?_
  exact zbG 1 rfl (zeb (y:=yP)) (by rw [zb3,hx7,zak,hx9,zak]; exact if_pos h19)
 ·have h19:¬ 0≤zew q.S x7.1.name:=by have:=of_decide_eq_false hc19; rwa [zeL,hS] at this
  refine zac ?_
  refine zaa ?_
  refine gQ (zat 6 tf41 rfl rfl (vs:=[_,_,_,_,_,_,_,_,_,_,_,_,_,_,_,_,_,_,_,_]) rfl rfl) ?_
  refine gQ (zaJ en20 rfl (fun w hw=>zd4 _ _ x7.1 w (zam Go.Stn.encI_ok (hw.has (p:=8) rfl)) (by have:=zkq hx7; unfold zaP; omega))) ?_
  refine gQ (zcr rfl rfl) ?_
  refine gQ (zad rfl) ?_
  refine zag (zae (T':=[(1,_),(3,_),(22,_)]) ⟨rfl,rfl,rfl,trivial⟩ ?_)
  refine zap rfl (fun hc22=>?_) (fun hc22=>?_)
  ·have h22:¬ za4 x7.1=true:=fun h=>by simp [zda.2 h] at hc22
   refine zaa ?_
   refine zcg en91 rfl (fun w hw=>zdk _ w) ?_
   exact zbG 1 rfl (zeb (y:=yP)) (by rw [zb3,hx7,zak,hx9,zak]; exact(if_neg h19).trans (if_neg h22))
  ·have h22:za4 x7.1=true:=zda.1 (by simpa using hc22)
   refine zac ?_
   refine zaa ?_
   refine gQ (zbW zg6 rfl (fun _ hw=>zaQ (Rd.has hb hw) rfl)) ?_
   refine gQ (zbx rfl) ?_
   refine gQ (zab zeo rfl) ?_
   refine gQ (zah 1 tf28 rfl rfl rfl) ?_
   refine gQ (zaV (Tryz.underlying28) rfl) ?_
   refine gQ (zbL rfl rfl) ?_
   refine gQ (zad rfl) ?_
   refine zag (zae (T':=[(1,_),(3,_),(27,_)]) ⟨rfl,rfl,rfl,trivial⟩ ?_)
   refine zap rfl (fun hc27=>?_) (fun hc27=>?_)
   ·have h27:q.S.length=20:=by have:=of_decide_eq_true hc27; omega
    refine zaa ?_
    refine zcg en91 rfl (fun w hw=>zdk _ w) ?_
    exact zbG 1 rfl (zeb (y:=yP)) (by rw [zb3,hx7,zak,hx9,zak]; exact(if_neg h19).trans ((if_pos h22).trans (if_pos h27)))
   ·have h27:¬ q.S.length=20:=by have:=of_decide_eq_false hc27; omega
    refine zaq ?_
    refine zjX (V:=fun z=>.slice z.1 ((S++[(⟨x7.1,m7.1,m7.2⟩:ShC)])).length z.2) (R':=fun z:Option Addr×Nat=>Row z.1 20 z.2 41 zbH (S++[(⟨x7.1,m7.1,m7.2⟩:ShC)])) (Bad:=fun _=>False) 7 [0] 2 42 (fun _=>mixed) rfl rfl (by kernel_rfl) rfl (fun _ hb=>hb.elim) rfl ?_
    refine zcf (zbW zg6 rfl (fun _ hw=>zaQ (Rd.has hb hw) rfl)) ?_
    refine zcf (zbW zg6 rfl (fun _ hw=>zaQ (Rd.has hb hw) rfl)) ?_
    refine zcf (zbx rfl) ?_
    refine zcf (zab zeo rfl) ?_
    refine zcf (zah 1 tf28 rfl rfl rfl) ?_
    refine zcf (zat 6 tf41 rfl rfl (vs:=[_,_,_,_,_,_,_,_,_,_,_,_,_,_,_,_,_,_,_,_]) rfl rfl) ?_
    refine zqp (zaD rfl (zsC (⟨x7.1,m7.1,m7.2⟩:ShC)) zbI rfl) ?_
    refine⟨fun b41=>zhN (m:=[(⟨x7.1,m7.1,m7.2⟩:ShC)]) af28 zbI rfl rfl (fun _ hw=>(zam zbI (hw.has (p:=0) rfl))) (by first | omega | (simp only [List.length_cons,List.length_nil]; omega)) (by first | (unfold maxLen; omega) | (simp only [List.length_cons,List.length_nil,maxLen]; omega)),?_⟩
    intro z42
    intro b41
    refine zae (T':=[(35,_),(42,_)]) ⟨rfl,rfl,trivial⟩ ?_
    refine gQ (zbx rfl) ?_
    refine gQ (zab zeo rfl) ?_
    refine zaA 2 tf28 rfl rfl (vs:=[_]) rfl rfl rfl rfl rfl ?_
    refine zag (zae (T':=[]) trivial ?_)
    refine zao 9 rfl ?_
    refine zao 5 rfl ?_
    refine zbT 2 ?_
    refine za2 (R':=Go.K.Rows (rowH 3) (S++[(⟨x7.1,m7.1,m7.2⟩:ShC)])) 0 rfl (fun B w hA=>zfr (f:=rowH 3) hA) ?_
    refine zao 6 rfl ?_
    refine zao 6 rfl ?_
    refine zao 2 rfl ?_
    refine zao 6 rfl ?_
    refine zao 6 rfl ?_
    refine zgU (y:=yP) (q:=⟨q.S++[x7.1],q.V⟩) (by rw [List.map_append,hS]; rfl) (hV) ?_
    exact zik ⟨q.S++[x7.1],q.V⟩ () 0 (zcN rfl) rfl rfl (by rw [zb3,hx7,zak,hx9,zak]; exact(if_neg h19).trans ((if_pos h22).trans (if_neg h27)))
end Go.Proofs.YtdcfcfhmkfkgmaaGreatDoor
namespace Go.Proofs.YtdcfcfhmkfkgmaaGreatDoor
open Go.K Go.Stn Go.Pln Go.RowKit
theorem zni:FO Tryz.prog 94 1 1:=⟨by kernel_rfl⟩
theorem af29:AF Tryz.prog 29 94 4 64 [.string ⟨#[]⟩,.string ⟨#[]⟩,.int IntKind.i64 0,.slice none 0 0]:=⟨Tryz.underlying29,by kernel_rfl,rfl⟩
theorem en47:En Tryz.prog 47:=za7 Tryz.func47 (by kernel_rfl) (by kernel_rfl)
theorem en48:En Tryz.prog 48:=za7 Tryz.func48 (by kernel_rfl) (by kernel_rfl)
theorem zn9 (x0:ByteArray) (x1:ByteArray) (w:World):(Instr.build 94 #[(0,.string x0),(1,.string x1)]).run Tryz.prog w=.ok (.agg #[.string x0,.string x1,.int IntKind.i64 0,.slice none 0 0]) w:=by kernel_rfl
theorem zsD (x0:WlC) (w:World):(Instr.buildSlice 29 1 #[(0,.agg #[.string x0.s.name,.string x0.s.sheet,.int .i64 x0.s.length,.slice x0.a x0.s.opens.length x0.cap])]).run Tryz.prog w=.ok (.slice (some ⟨w.heap.size,0,none⟩) 1 1) (w.alloc (.cells (([x0]:List (WlC)).flatMap zbS).toArray 94)):=by kernel_rfl
theorem zrR {q:Plan} (hq:OkQ q) (n:ByteArray):0≤(getS q.S n).height∧(getS q.S n).height≤3000:=by
 unfold getS
 split
 ·rename_i h
  have hl:zew q.S n < (q.S.length:Int):=Stn.findI_lt _ h
  have:=(zaZ (hq.sh _ (za0 (l:=q.S) (i:=(zew q.S n).toNat) (by omega)))).height
  omega
 ·exact⟨by decide,by decide⟩
set_option maxRecDepth 100000 in
set_option maxHeartbeats 8000000 in
theorem ztT (r:Nat) (ws:List ByteArray) (p:Nat) (q:Plan) (bp:Nat) (w:World) (B:Nat→Prop) (hB:∀ k,B k→k < w.heap.size) (hA:(SepR [Rdr 161 r ws,PlP p q]).A B w) (hq:OkQ q) (hb:Rd (fun k=>k < w.heap.size∧¬ B k) w (Box bp [.pointer (some ⟨p,0,none⟩)] 157)) (_hws:ws.length≤100000) :
  Calls Tryz.prog 112 #[.pointer (some ⟨r,0,none⟩),.pointer (some ⟨bp,0,none⟩)] w (zi5 33 (zb1 q ws) (fun _x (_:Unit)=>.tuple #[]) (fun x _=>PlP p x) (plAt yP p) B w):=by
 refine zby hB hA (vs:=[_,_]) Tryz.func112 rfl rfl (Nat.le_of_ble_eq_true rfl) ?_
 refine zbP ?_
 refine zac ?_
 refine zaa ?_
 refine gQ (zaf rfl) ?_
 refine zbZ (res:=zes ws) 0 ztG rfl rfl rfl (fun w B hF=>zqa r ws w B (fun k hk=>(hF.own k hk).2) hF.A) (fun k hk7=>?_) (fun x7 m7 hx7=>?_)
 ·
  exact zbG 1 rfl zdy (by rw [zb1,hk7]; first | done | rfl)
 refine gQ (zaf rfl) ?_
 refine zbZ (res:=zes x7.2) 0 ztG rfl rfl rfl (fun w B hF=>zqa r x7.2 w B (fun k hk=>(hF.own k hk).2) hF.A) (fun k hk9=>?_) (fun x9 m9 hx9=>?_)
 ·
  exact zbG 1 rfl zdy (by rw [zb1,hx7,zak,hk9]; first | done | rfl)
 refine gQ (zaI rfl (zn9 _ _)) ?_
 refine zaG rfl rfl (zaL tf94 (zs:=[_,_,_,_]) rfl) fun b3=>?_
 refine zaA 0 tf94 rfl rfl (vs:=[_,_,_,_]) rfl rfl rfl rfl rfl ?_
 refine zag (zae (T':=[(0,_),(1,_),(3,_)]) ⟨rfl,rfl,rfl,trivial⟩ ?_)
 refine zac ?_
 refine zaa ?_
 refine gQ (zaf rfl) ?_
 refine gQ (zab zgo rfl) ?_
 refine zaG rfl rfl (zaD rfl (zed (b3,2)) zbj rfl) fun b13=>?_
 refine zao 1 rfl ?_
 refine zao 2 rfl ?_
 refine zbT 2 ?_
 refine zbZ (res:=zco 1 x9.2) 0 zpl rfl rfl rfl (fun w B hF=>zfl r x9.2 b3 [.string x7.1,.string x9.1,.int .i64 0,.slice none 0 0] 94 [2] [(b3,2)] _ _ w B (fun k hk=>(hF.own k hk).2) hF.A (zdX zbj (hF.other 0 rfl)) rfl (by intro o ho; simp at ho; simp; omega) (by simp [zaP])) (fun k hk14=>?_) (fun x14 m14 hx14=>?_)
 ·
  exact zbG 2 rfl zdy (by rw [zb1,hx7,zak,hx9,zak,hk14]; first | done | rfl)
 refine zbP ?_
 refine za2 (R':=Box b3 [.string x7.1,.string x9.1,.int .i64 ((x14.1).getD 0 0),.slice none 0 0] 94) 1 rfl (fun B w hA=>hA) ?_
 refine zaK 2 rfl ?_
 refine zag (zae (T':=[(0,_),(1,_),(3,_)]) ⟨rfl,rfl,rfl,trivial⟩ ?_)
 refine zac ?_
 refine zaa ?_
 refine gQ (zaf rfl) ?_
 refine zbZ (res:=endE x14.2) 0 ztF rfl rfl rfl (fun w B hF=>ztK r x14.2 w B (fun k hk=>(hF.own k hk).2) hF.A) (fun k hk16=>?_) (fun x16 m16 hx16=>?_)
 ·
  exact zbG 2 rfl zdy (by rw [zb1,hx7,zak,hx9,zak,hx14,zak,hk16]; first | done | rfl)
 refine zag (zae (T':=[(1,_),(3,_)]) ⟨rfl,rfl,trivial⟩ ?_)
 refine zao 2 rfl ?_
 refine zgq fun sa sc S wa wc V hS hV=>?_
 have hlS:S.length=q.S.length:=by rw [←hS,List.length_map]
 have hlV:V.length=q.V.length:=by rw [←hV,List.length_map]
 have hq20:=hq.ls
 have hq50:=hq.lv
 refine zac ?_
 refine zf3 (ch [(9,Nat)]) 12 [0,1,3,0,8,31,63,127,127,0,767,2047] (fun _=>mixed) (by kernel_rfl) (zjK _ ⟨inferInstance,trivial⟩) ?_
 refine zbD (fun ρ=>zbW zg6 rfl (fun _ hw=>zaQ (Rd.has hb hw) rfl)) (fun ρ ρ' h=>by rfl) ?_
 refine zbD (fun ρ=>zbx rfl) (fun ρ ρ' h=>by rfl) ?_
 refine zbD (fun ρ=>zat 0 tf31 rfl rfl (vs:=[_,_]) rfl rfl) (fun ρ ρ' h=>by rfl) ?_
 refine zbD (fun ρ=>zab zni rfl) (fun ρ ρ' h=>by rfl) ?_
 refine zbD (fun ρ=>zah 6 tf9 rfl rfl rfl) (fun ρ ρ' h=>by rfl) ?_
 refine zbD (fun ρ=>zaJ en46 rfl (fun w hw=>zeu _ _ S _ _ _ x9.1 w (zam zbI (hw.has (p:=1) rfl)) (by unfold zaP; omega))) (fun ρ ρ' h=>by rfl) ?_
 refine zbD (fun ρ=>zaf rfl) (fun ρ ρ' h=>by rfl) ?_
 refine zbD (fun ρ=>zaB rfl rfl) (fun ρ ρ' h=>by rfl) ?_
 refine zbD (fun ρ=>zaB rfl rfl) (fun ρ ρ' h=>by rfl) ?_
 refine zgB (fun ρ=>zaL tf41 (zs:=[_,_,_,_,_,_,_,_,_,_,_,_,_,_,_,_,_,_,_,_]) rfl) (fun ρ ρ' h=>⟨by rfl,by rfl⟩) ?_
 refine zlr (R:=fun ρ=>Box (ρ 9) [.string ⟨#[]⟩,.int .i64 0,.int .i64 0,.int .i64 0,.int .i64 0,.slice none 0 0,.int .i64 0,.int .i64 0,.int .i64 0,.int .i64 0,.int .i64 0,.int .i64 0,.int .i64 0,.int .u8 0,.int .i64 0,.int .i64 0,.int .i64 0,.int .i64 0,.int .i64 0,.int .i64 0] 41) (A:=fun ρ=>Box (ρ 9) [.string (zav S x9.1).s.name,.int .i64 ((zav S x9.1).s.base),.int .i64 ((zav S x9.1).s.batter),.int .i64 ((zav S x9.1).s.height),.int .i64 ((zav S x9.1).s.skin),.slice (zav S x9.1).a (zav S x9.1).s.heights.length (zav S x9.1).cap,.int .i64 ((zav S x9.1).s.least),.int .i64 ((zav S x9.1).s.lap),.int .i64 ((zav S x9.1).s.run),.int .i64 ((zav S x9.1).s.every),.int .i64 ((zav S x9.1).s.at_),.int .i64 ((zav S x9.1).s.footing),.int .i64 ((zav S x9.1).s.spread),.int .u8 (zav S x9.1).s.cope,.int .i64 ((zav S x9.1).s.tall),.int .i64 ((zav S x9.1).s.short),.int .i64 ((zav S x9.1).s.thick),.int .i64 ((zav S x9.1).s.low),.int .i64 ((zav S x9.1).s.high),.int .i64 ((zav S x9.1).s.rood)] 41) 9 rfl rfl (fun _=>rfl) (fun ρ=>zex tf41 rfl rfl (vs:=[_,_,_,_,_,_,_,_,_,_,_,_,_,_,_,_,_,_,_,_]) rfl rfl rfl rfl rfl) (fun ρ ρ' h=>by(first | rfl | simp only [h 9 rfl])) ?_
 refine zbD (fun ρ=>zad rfl) (fun ρ ρ' h=>by rfl) ?_
 refine fun ρ=>zag (zf4 (X:=Nat) (ρ 9) (fun b4=>[(1,.pointer (some ⟨bp,0,none⟩)),(3,.pointer (some ⟨b3,0,none⟩)),(4,.pointer (some ⟨b4,0,none⟩)),(5,.bool (decide (0≤zaS S x9.1)))]) (fun b4=>[Box b4 [.string (zav S x9.1).s.name,.int .i64 ((zav S x9.1).s.base),.int .i64 ((zav S x9.1).s.batter),.int .i64 ((zav S x9.1).s.height),.int .i64 ((zav S x9.1).s.skin),.slice (zav S x9.1).a (zav S x9.1).s.heights.length (zav S x9.1).cap,.int .i64 ((zav S x9.1).s.least),.int .i64 ((zav S x9.1).s.lap),.int .i64 ((zav S x9.1).s.run),.int .i64 ((zav S x9.1).s.every),.int .i64 ((zav S x9.1).s.at_),.int .i64 ((zav S x9.1).s.footing),.int .i64 ((zav S x9.1).s.spread),.int .u8 (zav S x9.1).s.cope,.int .i64 ((zav S x9.1).s.tall),.int .i64 ((zav S x9.1).s.short),.int .i64 ((zav S x9.1).s.thick),.int .i64 ((zav S x9.1).s.low),.int .i64 ((zav S x9.1).s.high),.int .i64 ((zav S x9.1).s.rood)] 41,Box p [.slice sa S.length sc,.slice wa V.length wc] 31,Row sa 20 sc 41 zbH S,Go.K.Rows (rowH 3) S,Row wa 4 wc 94 zbS V,Go.K.Rows (rowO 98) V,Rdr 161 r x16.2,Box b3 [.string x7.1,.string x9.1,.int .i64 ((x14.1).getD 0 0),.slice none 0 0] 94]) ⟨rfl,rfl,rfl,rfl,trivial⟩ rfl ?_)
 rintro b4
 refine zac ?_
 refine zas ?_
 refine zac ?_
 refine zbb 8 (fun _=>mixed) (by kernel_rfl) ?_
 refine ph_y (zbW zg6 rfl (fun _ hw=>zaQ (Rd.has hb hw) rfl)) ?_
 refine ph_y (zbx rfl) ?_
 refine ph_y (zat 1 tf31 rfl rfl (vs:=[_,_]) rfl rfl) ?_
 refine ph_y (zab znh rfl) ?_
 refine ph_y (zah 7 tf9 rfl rfl rfl) ?_
 refine ph_y (zaJ en47 rfl (fun w hw=>zkg _ _ _ _ _ V x7.1 w (zam zbo (hw.has (p:=4) rfl)) (by unfold zaP; omega))) ?_
 refine ph_y (zfx rfl rfl) ?_
 refine ph_y (zad rfl) ?_
 refine zag (zae (T':=[(1,_),(3,_),(4,_),(5,_),(26,_)]) ⟨rfl,rfl,rfl,rfl,rfl,trivial⟩ ?_)
 refine zap rfl (fun hc26=>?_) (fun hc26=>?_)
 ·have h26:0≤zss q.V x7.1:=by have:=of_decide_eq_true hc26; rwa [zkx,hV] at this
  refine zaa ?_
  refine zcg en91 rfl (fun w hw=>zdk _ w) ?_
  exact zbG 1 rfl (zeb (y:=yP)) (by rw [zb1,hx7,zak,hx9,zak,hx14,zak,hx16,zak]; exact if_pos h26)
 ·have h26:¬ 0≤zss q.V x7.1:=by have:=of_decide_eq_false hc26; rwa [zkx,hV] at this
  refine zac ?_
  refine zaa ?_
  refine gQ (zaf rfl) ?_
  refine gQ (zbR rfl) ?_
  refine gQ (zad rfl) ?_
  refine zag (zae (T':=[(1,_),(3,_),(4,_),(35,_)]) ⟨rfl,rfl,rfl,rfl,trivial⟩ ?_)
  refine zap rfl (fun hc35=>?_) (fun hc35=>?_)
  ·have h35:¬ 0≤zew q.S x9.1:=by have h:=hc35; rw [zeL,hS] at h; simpa using h
   refine zaa ?_
   refine zcg en91 rfl (fun w hw=>zdk _ w) ?_
   exact zbG 1 rfl (zeb (y:=yP)) (by rw [zb1,hx7,zak,hx9,zak,hx14,zak,hx16,zak]; exact(if_neg h26).trans (if_neg h35))
  ·have h35:0≤zew q.S x9.1:=by have h:=hc35; rw [zeL,hS] at h; simpa using h
   refine zac ?_
   refine zaa ?_
   refine gQ (zat 7 tf94 rfl rfl (vs:=[_,_,_,_]) rfl rfl) ?_
   refine gQ (zat 0 tf41 rfl rfl (vs:=[_,_,_,_,_,_,_,_,_,_,_,_,_,_,_,_,_,_,_,_]) rfl rfl) ?_
   refine gQ (zaJ en48 rfl (fun w hw=>zmI none 0 (⟨x7.1,x9.1,(x14.1).getD 0 0,[]⟩:Wll) _ _ (zav S x9.1).s w ⟨fun _=>False,fun _ h=>h.elim,.inl rfl⟩ (Nat.le_refl _) (by simp [zaP]) (by intro o ho; cases ho) (by rw [zf2,hS]; exact zrR hq _))) ?_
   refine gQ (zbR rfl) ?_
   refine gQ (zad rfl) ?_
   refine zag (zae (T':=[(1,_),(3,_),(39,_)]) ⟨rfl,rfl,rfl,trivial⟩ ?_)
   refine zap rfl (fun hc39=>?_) (fun hc39=>?_)
   ·have h39:¬ zd1 (getS q.S x9.1).height ⟨x7.1,x9.1,(x14.1).getD 0 0,[]⟩=true:=by have h:=hc39; rw [zf2,hS] at h; simpa using h
    refine zaa ?_
    refine zcg en91 rfl (fun w hw=>zdk _ w) ?_
    exact zbG 1 rfl (zeb (y:=yP)) (by rw [zb1,hx7,zak,hx9,zak,hx14,zak,hx16,zak]; exact(if_neg h26).trans ((if_pos h35).trans (if_neg h39)))
   ·have h39:zd1 (getS q.S x9.1).height ⟨x7.1,x9.1,(x14.1).getD 0 0,[]⟩=true:=by have h:=hc39; rw [zf2,hS] at h; simpa using h
    refine zac ?_
    refine zaa ?_
    refine gQ (zbW zg6 rfl (fun _ hw=>zaQ (Rd.has hb hw) rfl)) ?_
    refine gQ (zbx rfl) ?_
    refine gQ (zab zd7 rfl) ?_
    refine gQ (zah 1 tf29 rfl rfl rfl) ?_
    refine gQ (zaV (Tryz.underlying29) rfl) ?_
    refine gQ (zbL rfl rfl) ?_
    refine gQ (zad rfl) ?_
    refine zag (zae (T':=[(1,_),(3,_),(45,_)]) ⟨rfl,rfl,rfl,trivial⟩ ?_)
    refine zap rfl (fun hc45=>?_) (fun hc45=>?_)
    ·have h45:q.V.length=50:=by have:=of_decide_eq_true hc45; omega
     refine zaa ?_
     refine zcg en91 rfl (fun w hw=>zdk _ w) ?_
     exact zbG 1 rfl (zeb (y:=yP)) (by rw [zb1,hx7,zak,hx9,zak,hx14,zak,hx16,zak]; exact(if_neg h26).trans ((if_pos h35).trans ((if_pos h39).trans (if_pos h45))))
    ·have h45:¬ q.V.length=50:=by have:=of_decide_eq_false hc45; omega
     refine zaq ?_
     refine zjX (V:=fun z=>.slice z.1 ((V++[(⟨⟨x7.1,x9.1,((x14.1).getD 0 0),[]⟩,none,0⟩:WlC)])).length z.2) (R':=fun z:Option Addr×Nat=>Row z.1 4 z.2 94 zbS (V++[(⟨⟨x7.1,x9.1,((x14.1).getD 0 0),[]⟩,none,0⟩:WlC)])) (Bad:=fun _=>False) 7 [0] 4 60 (fun _=>mixed) rfl rfl (by kernel_rfl) rfl (fun _ hb=>hb.elim) rfl ?_
     refine zcf (zbW zg6 rfl (fun _ hw=>zaQ (Rd.has hb hw) rfl)) ?_
     refine zcf (zbW zg6 rfl (fun _ hw=>zaQ (Rd.has hb hw) rfl)) ?_
     refine zcf (zbx rfl) ?_
     refine zcf (zab zd7 rfl) ?_
     refine zcf (zah 1 tf29 rfl rfl rfl) ?_
     refine zcf (zat 7 tf94 rfl rfl (vs:=[_,_,_,_]) rfl rfl) ?_
     refine zqp (zaD rfl (zsD (⟨⟨x7.1,x9.1,((x14.1).getD 0 0),[]⟩,none,0⟩:WlC)) zbo rfl) ?_
     refine⟨fun b59=>zhN (m:=[(⟨⟨x7.1,x9.1,((x14.1).getD 0 0),[]⟩,none,0⟩:WlC)]) af29 zbo rfl rfl (fun _ hw=>(zam zbo (hw.has (p:=0) rfl))) (by first | omega | (simp only [List.length_cons,List.length_nil]; omega)) (by first | (unfold maxLen; omega) | (simp only [List.length_cons,List.length_nil,maxLen]; omega)),?_⟩
     intro z60
     intro b59
     refine zae (T':=[(53,_),(60,_)]) ⟨rfl,rfl,trivial⟩ ?_
     refine gQ (zbx rfl) ?_
     refine gQ (zab zd7 rfl) ?_
     refine zaA 2 tf29 rfl rfl (vs:=[_]) rfl rfl rfl rfl rfl ?_
     refine zag (zae (T':=[]) trivial ?_)
     refine zbB 98 zba 5 ?_
     refine zao 7 rfl ?_
     refine zbT 2 ?_
     refine za2 (R':=Go.K.Rows (rowO 98) (V++[(⟨⟨x7.1,x9.1,(x14.1).getD 0 0,[]⟩,none,0⟩:WlC)])) 0 rfl (fun B w hA=>zfr (f:=rowO 98) hA) ?_
     refine zao 6 rfl ?_
     refine zao 6 rfl ?_
     refine zao 6 rfl ?_
     refine zao 6 rfl ?_
     refine zgU (y:=yP) (q:=⟨q.S,q.V++[⟨x7.1,x9.1,(x14.1).getD 0 0,[]⟩]⟩) (hS) (by rw [List.map_append,hV]; rfl) ?_
     exact zik ⟨q.S,q.V++[⟨x7.1,x9.1,(x14.1).getD 0 0,[]⟩]⟩ () 0 (zcN rfl) rfl rfl (by rw [zb1,hx7,zak,hx9,zak,hx14,zak,hx16,zak]; exact(if_neg h26).trans ((if_pos h35).trans ((if_pos h39).trans (if_neg h45))))
end Go.Proofs.YtdcfcfhmkfkgmaaGreatDoor
namespace Go.Proofs.YtdcfcfhmkfkgmaaGreatDoor
open Go.K Go.Stn Go.Pln Go.RowKit
theorem zxv:SA Tryz.prog 138 9 5 1:=⟨Tryz.underlying138,by kernel_rfl⟩
theorem af92:AF Tryz.prog 92 98 5 40 [.int IntKind.u8 0,.int IntKind.i64 0,.int IntKind.i64 0,.int IntKind.i64 0,.int IntKind.i64 0]:=⟨Tryz.underlying92,by kernel_rfl,rfl⟩
theorem ztn (x0:Int) (w:World):(Instr.build 98 #[(0,.int .u8 x0)]).run Tryz.prog w=.ok (.agg #[.int .u8 x0,.int IntKind.i64 0,.int IntKind.i64 0,.int IntKind.i64 0,.int IntKind.i64 0]) w:=by kernel_rfl
theorem zo2 (x0_0:Int) (x0_1:Int) (x0_2:Int) (x0_3:Int) (x0_4:Int) (w:World):(Instr.buildSlice 92 1 #[(0,.agg #[.int .u8 x0_0,.int .i64 x0_1,.int .i64 x0_2,.int .i64 x0_3,.int .i64 x0_4])]).run Tryz.prog w=.ok (.slice (some ⟨w.heap.size,0,none⟩) 1 1) (w.alloc (.cells (([⟨x0_0,x0_1,x0_2,x0_3,x0_4⟩]:List (Opn)).flatMap zba).toArray 98)):=by kernel_rfl
theorem zts (x0:Nat×Nat) (x1:Nat×Nat) (x2:Nat×Nat) (x3:Nat×Nat) (w:World):(Instr.buildSlice 206 4 #[(0,.pointer (some ⟨x0.1,x0.2,none⟩)),(1,.pointer (some ⟨x1.1,x1.2,none⟩)),(2,.pointer (some ⟨x2.1,x2.2,none⟩)),(3,.pointer (some ⟨x3.1,x3.2,none⟩))]).run Tryz.prog w=.ok (.slice (some ⟨w.heap.size,0,none⟩) 4 4) (w.alloc (.cells (([x0,x1,x2,x3]:List (Nat×Nat)).flatMap zhZ).toArray 186)):=by kernel_rfl
theorem zqi {q:Plan} (hq:OkQ q) (n:ByteArray):0≤(getS q.S n).height∧(getS q.S n).height≤3000:=by
 unfold getS
 split
 ·rename_i h
  have hl:zew q.S n < (q.S.length:Int):=Stn.findI_lt _ h
  have:=(zaZ (hq.sh _ (za0 (l:=q.S) (i:=(zew q.S n).toNat) (by omega)))).height
  omega
 ·exact⟨by decide,by decide⟩
theorem zsY {q:Plan} {V:List WlC} (hV:V.map (·.s)=q.V) {i:Nat} (hi:i+1=V.length):(V.getD i default).s=q.V.getD (q.V.length - 1) default:=by
 rw [←hV,List.length_map,show V.length - 1=i from by omega,zeq (fun z:WlC=>z.s) rfl]
theorem zmh {q:Plan} {V:List WlC} (hq:OkQ q) (hV:V.map (·.s)=q.V) {i:Nat} (hi:i+1=V.length):(V.getD i default).s.opens.length≤20∧∀ o∈(V.getD i default).s.opens,Knd o:=by
 refine hq.wv _ ?_
 rw [←hV]
 exact List.mem_map_of_mem (za0 (by omega))
theorem zrI {v:Wll} {o:Opn} (h:∀ z∈v.opens,Knd z) (ho:Knd o):∀ z∈(more v o).opens,Knd z:=by
 intro z hz
 rcases List.mem_append.1 hz with h' | h'
 ·exact h z h'
 ·rw [List.mem_singleton] at h'; rw [h']; exact ho
theorem zrC {ws:List ByteArray} {x:Int×List ByteArray} (h:zfk opensW 1 ws=.ok x) (a b c d:Int):Knd ⟨x.1,a,b,c,d⟩:=by
 have hk:=znp h
 have:(opensW.length:Int)=5:=rfl
 exact⟨by dsimp only; omega,by dsimp only; omega⟩
theorem zxy {q:Plan} {V:List WlC} (hV:V.map (·.s)=q.V) {i:Nat} (hi:i+1=V.length) (o:Opn) (a:Option Addr) (c:Nat):(V.set i ⟨more (V.getD i default).s o,a,c⟩).map (·.s)=q.V.set (q.V.length - 1) (more (q.V.getD (q.V.length - 1) default) o):=by
 rw [List.map_set,hV,zsY hV hi,show q.V.length - 1=i from by rw [←hV,List.length_map]; omega]
theorem zwj {α:Type} [Inhabited α] {V:List α} {i:Nat} (hi:i+1=V.length) (x:α):(V.set i x).getD i default=x:=by
 rw [List.getD_eq_getElem?_getD,List.getElem?_set_self (by omega)]; rfl
theorem zot {α:Type} [Inhabited α] {f:α→Res} {V:List α} {i:Nat} {B:Nat→Prop} {w:World} (h:i+1=V.length) (hA:(Go.K.Rows f V).A B w):(SepR [Go.K.Rows f (V.take i),f (V.getD i default)]).A B w:=by
 have h1:=zqE (f:=f) (by omega) hA
 rwa [show V.length - 1=i from by omega] at h1
theorem zqF {α:Type} [Inhabited α] {f:α→Res} {V:List α} {i:Nat} {x:α} {B:Nat→Prop} {w:World} (h:i+1=V.length) (hA:(SepR [Go.K.Rows f (V.take i),f x]).A B w):(Go.K.Rows f (V.set i x)).A B w:=by
 have h0:V.length - 1=i:=by omega
 have h1:=zsc (f:=f) (V:=V) (x:=x) (by omega) (by rw [h0]; exact hA)
 rwa [h0] at h1
set_option maxRecDepth 100000 in
set_option maxHeartbeats 8000000 in
theorem ztU (r:Nat) (ws:List ByteArray) (p:Nat) (q:Plan) (bp:Nat) (w:World) (B:Nat→Prop) (hB:∀ k,B k→k < w.heap.size) (hA:(SepR [Rdr 161 r ws,PlP p q]).A B w) (hq:OkQ q) (hb:Rd (fun k=>k < w.heap.size∧¬ B k) w (Box bp [.pointer (some ⟨p,0,none⟩)] 157)) (_hws:ws.length≤100000) (hop:Rd (fun k=>k < w.heap.size∧¬ B k) w (zaW (some ⟨1,0,none⟩) 1 encS opensW)) :
  Calls Tryz.prog 115 #[.pointer (some ⟨r,0,none⟩),.pointer (some ⟨bp,0,none⟩)] w (zi5 33 (zch q ws) (fun _x (_:Unit)=>.tuple #[]) (fun x _=>PlP p x) (plAt yP p) B w):=by
 refine zby hB hA (vs:=[_,_]) Tryz.func115 rfl rfl (Nat.le_of_ble_eq_true rfl) ?_
 refine zbP ?_
 refine zac ?_
 refine zaa ?_
 refine gQ (zaf rfl) ?_
 refine gQ (zjB zxv rfl) ?_
 refine zbZ (res:=zfk opensW 1 ws) 0 zvS rfl rfl rfl (fun w B hF=>zsX r ws (some ⟨1,0,none⟩) 5 opensW 1 w B (fun k hk=>(hF.own k hk).2) hF.A (hF.rd hop) (by decide) (by decide) (by decide)) (fun k hk9=>?_) (fun x9 m9 hx9=>?_)
 ·
  exact zbG 1 rfl zdy (by rw [zch,hk9]; first | done | rfl)
 refine gQ (zaI rfl (ztn _)) ?_
 refine zaG rfl rfl (zaL tf98 (zs:=[_,_,_,_,_]) rfl) fun b3=>?_
 refine zaA 0 tf98 rfl rfl (vs:=[_,_,_,_,_]) rfl rfl rfl rfl rfl ?_
 refine zag (zae (T':=[(0,_),(1,_),(3,_)]) ⟨rfl,rfl,rfl,trivial⟩ ?_)
 refine zac ?_
 refine zaa ?_
 refine gQ (zaf rfl) ?_
 refine gQ (zab zhf rfl) ?_
 refine gQ (zab zji rfl) ?_
 refine gQ (zab zfe rfl) ?_
 refine gQ (zab zhg rfl) ?_
 refine zaG rfl rfl (zaD rfl (zts (b3,1) (b3,2) (b3,3) (b3,4)) zbj rfl) fun b16=>?_
 refine zao 1 rfl ?_
 refine zao 2 rfl ?_
 refine zbT 2 ?_
 refine zbZ (res:=zco 4 x9.2) 0 zpl rfl rfl rfl (fun w B hF=>zfl r x9.2 b3 [.int .u8 x9.1,.int .i64 0,.int .i64 0,.int .i64 0,.int .i64 0] 98 [1,2,3,4] [(b3,1),(b3,2),(b3,3),(b3,4)] _ _ w B (fun k hk=>(hF.own k hk).2) hF.A (zdX zbj (hF.other 0 rfl)) rfl (by intro o ho; simp at ho; simp; omega) (by simp [zaP])) (fun k hk17=>?_) (fun x17 m17 hx17=>?_)
 ·
  exact zbG 2 rfl zdy (by rw [zch,hx9,zak,hk17]; first | done | rfl)
 refine zbP ?_
 refine za2 (R':=Box b3 [.int .u8 x9.1,.int .i64 ((x17.1).getD 0 0),.int .i64 (((x17.1.drop 1)).getD 0 0),.int .i64 ((((x17.1.drop 1).drop 1)).getD 0 0),.int .i64 (((((x17.1.drop 1).drop 1).drop 1)).getD 0 0)] 98) 1 rfl (fun B w hA=>hA) ?_
 refine zaK 2 rfl ?_
 refine zag (zae (T':=[(0,_),(1,_),(3,_)]) ⟨rfl,rfl,rfl,trivial⟩ ?_)
 refine zac ?_
 refine zaa ?_
 refine gQ (zaf rfl) ?_
 refine zbZ (res:=endE x17.2) 0 ztF rfl rfl rfl (fun w B hF=>ztK r x17.2 w B (fun k hk=>(hF.own k hk).2) hF.A) (fun k hk19=>?_) (fun x19 m19 hx19=>?_)
 ·
  exact zbG 2 rfl zdy (by rw [zch,hx9,zak,hx17,zak,hk19]; first | done | rfl)
 refine zag (zae (T':=[(1,_),(3,_)]) ⟨rfl,rfl,trivial⟩ ?_)
 refine zao 2 rfl ?_
 refine zgq fun sa sc S wa wc V hS hV=>?_
 have hlS:S.length=q.S.length:=by rw [←hS,List.length_map]
 have hlV:V.length=q.V.length:=by rw [←hV,List.length_map]
 have hq20:=hq.ls
 have hq50:=hq.lv
 refine zac ?_
 refine zac ?_
 refine zaa ?_
 refine gQ (zbW zg6 rfl (fun _ hw=>zaQ (Rd.has hb hw) rfl)) ?_
 refine gQ (zbx rfl) ?_
 refine gQ (zab zd7 rfl) ?_
 refine gQ (zah 0 tf29 rfl rfl rfl) ?_
 refine gQ (zaV (Tryz.underlying29) rfl) ?_
 refine gQ (zbL rfl rfl) ?_
 refine zag (zae (T':=[(1,_),(3,_),(25,_)]) ⟨rfl,rfl,rfl,trivial⟩ ?_)
 refine zap rfl (fun hc25=>?_) (fun hc25=>?_)
 ·have h25:q.V.length=0:=by have:=of_decide_eq_true hc25; omega
  refine zaa ?_
  refine zcg en91 rfl (fun w hw=>zdk _ w) ?_
  exact zbG 0 rfl (zeb (y:=yP)) (by rw [zch,hx9,zak,hx17,zak,hx19,zak]; exact if_pos h25)
 ·have h25:¬ q.V.length=0:=by have:=of_decide_eq_false hc25; omega
  refine zaq ?_
  refine zac ?_
  refine zbb 12 (fun _=>mixed) (by kernel_rfl) ?_
  refine ph_y (zbW zg6 rfl (fun _ hw=>zaQ (Rd.has hb hw) rfl)) ?_
  refine ph_y (zbx rfl) ?_
  refine ph_y (zab zd7 rfl) ?_
  refine ph_y (zah 0 tf29 rfl rfl rfl) ?_
  refine ph_y (zbW zg6 rfl (fun _ hw=>zaQ (Rd.has hb hw) rfl)) ?_
  refine ph_y (zbx rfl) ?_
  refine ph_y (zab zd7 rfl) ?_
  refine ph_y (zah 0 tf29 rfl rfl rfl) ?_
  refine ph_y (zaV (Tryz.underlying29) rfl) ?_
  refine ph_y (zfV rfl rfl (by omega) (by omega)) ?_
  refine ph_y (zaE se29 rfl rfl (fun _ hw=>(zam zbo (hw.has (p:=3) rfl))) (by omega) (by omega)) ?_
  refine ph_y (zad rfl) ?_
  refine zag (zae (T':=[(1,_),(3,_),(4,_)]) ⟨rfl,rfl,rfl,trivial⟩ ?_)
  have hi0:((V.length:Int) - 1).toNat+1=V.length:=by omega
  refine zac ?_
  refine zf3 (ch [(11,Nat)]) 14 [0,1,3,0,8,24,56,127,255,511,511,0,3071,8191] (fun _=>mixed) (by kernel_rfl) (zjK _ ⟨inferInstance,trivial⟩) ?_
  refine zbD (fun ρ=>zbW zg6 rfl (fun _ hw=>zaQ (Rd.has hb hw) rfl)) (fun ρ ρ' h=>by rfl) ?_
  refine zbD (fun ρ=>zbx rfl) (fun ρ ρ' h=>by rfl) ?_
  refine zbD (fun ρ=>zat 0 tf31 rfl rfl (vs:=[_,_]) rfl rfl) (fun ρ ρ' h=>by rfl) ?_
  refine zbD (fun ρ=>zaf rfl) (fun ρ ρ' h=>by rfl) ?_
  refine zbD (fun ρ=>zeP rfl (fun w hw=>zaO (i:=((V.length:Int) - 1)) (zam zbo (hw.has (p:=3) rfl)) (by omega) (by omega))) (fun ρ ρ' h=>by rfl) ?_
  refine zbD (fun ρ=>zbh zni rfl (fun w hw=>zaO (i:=((V.length:Int) - 1)) (zam zbo (hw.has (p:=3) rfl)) (by omega) (by omega))) (fun ρ ρ' h=>by rfl) ?_
  refine zbD (fun ρ=>zbn tf9 rfl (fun _ hw=>(zam zbo (hw.has (p:=3) rfl))) (by omega) (by omega) rfl) (fun ρ ρ' h=>by rfl) ?_
  refine zbD (fun ρ=>zaJ en46 rfl (fun w hw=>zeu _ _ S _ _ _ ((V.getD (((V.length:Int) - 1)).toNat default).s.sheet) w (zam zbI (hw.has (p:=1) rfl)) (by unfold zaP; omega))) (fun ρ ρ' h=>by rfl) ?_
  refine zbD (fun ρ=>zaf rfl) (fun ρ ρ' h=>by rfl) ?_
  refine zbD (fun ρ=>zaB rfl rfl) (fun ρ ρ' h=>by rfl) ?_
  refine zbD (fun ρ=>zaB rfl rfl) (fun ρ ρ' h=>by rfl) ?_
  refine zgB (fun ρ=>zaL tf41 (zs:=[_,_,_,_,_,_,_,_,_,_,_,_,_,_,_,_,_,_,_,_]) rfl) (fun ρ ρ' h=>⟨by rfl,by rfl⟩) ?_
  refine zlr (R:=fun ρ=>Box (ρ 11) [.string ⟨#[]⟩,.int .i64 0,.int .i64 0,.int .i64 0,.int .i64 0,.slice none 0 0,.int .i64 0,.int .i64 0,.int .i64 0,.int .i64 0,.int .i64 0,.int .i64 0,.int .i64 0,.int .u8 0,.int .i64 0,.int .i64 0,.int .i64 0,.int .i64 0,.int .i64 0,.int .i64 0] 41) (A:=fun ρ=>Box (ρ 11) [.string (zav S ((V.getD (((V.length:Int) - 1)).toNat default).s.sheet)).s.name,.int .i64 ((zav S ((V.getD (((V.length:Int) - 1)).toNat default).s.sheet)).s.base),.int .i64 ((zav S ((V.getD (((V.length:Int) - 1)).toNat default).s.sheet)).s.batter),.int .i64 ((zav S ((V.getD (((V.length:Int) - 1)).toNat default).s.sheet)).s.height),.int .i64 ((zav S ((V.getD (((V.length:Int) - 1)).toNat default).s.sheet)).s.skin),.slice (zav S ((V.getD (((V.length:Int) - 1)).toNat default).s.sheet)).a (zav S ((V.getD (((V.length:Int) - 1)).toNat default).s.sheet)).s.heights.length (zav S ((V.getD (((V.length:Int) - 1)).toNat default).s.sheet)).cap,.int .i64 ((zav S ((V.getD (((V.length:Int) - 1)).toNat default).s.sheet)).s.least),.int .i64 ((zav S ((V.getD (((V.length:Int) - 1)).toNat default).s.sheet)).s.lap),.int .i64 ((zav S ((V.getD (((V.length:Int) - 1)).toNat default).s.sheet)).s.run),.int .i64 ((zav S ((V.getD (((V.length:Int) - 1)).toNat default).s.sheet)).s.every),.int .i64 ((zav S ((V.getD (((V.length:Int) - 1)).toNat default).s.sheet)).s.at_),.int .i64 ((zav S ((V.getD (((V.length:Int) - 1)).toNat default).s.sheet)).s.footing),.int .i64 ((zav S ((V.getD (((V.length:Int) - 1)).toNat default).s.sheet)).s.spread),.int .u8 (zav S ((V.getD (((V.length:Int) - 1)).toNat default).s.sheet)).s.cope,.int .i64 ((zav S ((V.getD (((V.length:Int) - 1)).toNat default).s.sheet)).s.tall),.int .i64 ((zav S ((V.getD (((V.length:Int) - 1)).toNat default).s.sheet)).s.short),.int .i64 ((zav S ((V.getD (((V.length:Int) - 1)).toNat default).s.sheet)).s.thick),.int .i64 ((zav S ((V.getD (((V.length:Int) - 1)).toNat default).s.sheet)).s.low),.int .i64 ((zav S ((V.getD (((V.length:Int) - 1)).toNat default).s.sheet)).s.high),.int .i64 ((zav S ((V.getD (((V.length:Int) - 1)).toNat default).s.sheet)).s.rood)] 41) 11 rfl rfl (fun _=>rfl) (fun ρ=>zex tf41 rfl rfl (vs:=[_,_,_,_,_,_,_,_,_,_,_,_,_,_,_,_,_,_,_,_]) rfl rfl rfl rfl rfl) (fun ρ ρ' h=>by(first | rfl | simp only [h 11 rfl])) ?_
  refine zbD (fun ρ=>zad rfl) (fun ρ ρ' h=>by rfl) ?_
  refine fun ρ=>zag (zf4 (X:=Nat) (ρ 11) (fun b5=>[(3,.pointer (some ⟨b3,0,none⟩)),(4,(epx wa (((V.length:Int) - 1).toNat*4))),(5,.pointer (some ⟨b5,0,none⟩))]) (fun b5=>[Box b5 [.string (zav S ((V.getD (((V.length:Int) - 1)).toNat default).s.sheet)).s.name,.int .i64 ((zav S ((V.getD (((V.length:Int) - 1)).toNat default).s.sheet)).s.base),.int .i64 ((zav S ((V.getD (((V.length:Int) - 1)).toNat default).s.sheet)).s.batter),.int .i64 ((zav S ((V.getD (((V.length:Int) - 1)).toNat default).s.sheet)).s.height),.int .i64 ((zav S ((V.getD (((V.length:Int) - 1)).toNat default).s.sheet)).s.skin),.slice (zav S ((V.getD (((V.length:Int) - 1)).toNat default).s.sheet)).a (zav S ((V.getD (((V.length:Int) - 1)).toNat default).s.sheet)).s.heights.length (zav S ((V.getD (((V.length:Int) - 1)).toNat default).s.sheet)).cap,.int .i64 ((zav S ((V.getD (((V.length:Int) - 1)).toNat default).s.sheet)).s.least),.int .i64 ((zav S ((V.getD (((V.length:Int) - 1)).toNat default).s.sheet)).s.lap),.int .i64 ((zav S ((V.getD (((V.length:Int) - 1)).toNat default).s.sheet)).s.run),.int .i64 ((zav S ((V.getD (((V.length:Int) - 1)).toNat default).s.sheet)).s.every),.int .i64 ((zav S ((V.getD (((V.length:Int) - 1)).toNat default).s.sheet)).s.at_),.int .i64 ((zav S ((V.getD (((V.length:Int) - 1)).toNat default).s.sheet)).s.footing),.int .i64 ((zav S ((V.getD (((V.length:Int) - 1)).toNat default).s.sheet)).s.spread),.int .u8 (zav S ((V.getD (((V.length:Int) - 1)).toNat default).s.sheet)).s.cope,.int .i64 ((zav S ((V.getD (((V.length:Int) - 1)).toNat default).s.sheet)).s.tall),.int .i64 ((zav S ((V.getD (((V.length:Int) - 1)).toNat default).s.sheet)).s.short),.int .i64 ((zav S ((V.getD (((V.length:Int) - 1)).toNat default).s.sheet)).s.thick),.int .i64 ((zav S ((V.getD (((V.length:Int) - 1)).toNat default).s.sheet)).s.low),.int .i64 ((zav S ((V.getD (((V.length:Int) - 1)).toNat default).s.sheet)).s.high),.int .i64 ((zav S ((V.getD (((V.length:Int) - 1)).toNat default).s.sheet)).s.rood)] 41,Box p [.slice sa S.length sc,.slice wa V.length wc] 31,Row sa 20 sc 41 zbH S,Go.K.Rows (rowH 3) S,Row wa 4 wc 94 zbS V,Go.K.Rows (rowO 98) V,Rdr 161 r x19.2,Box b3 [.int .u8 x9.1,.int .i64 ((x17.1).getD 0 0),.int .i64 (((x17.1.drop 1)).getD 0 0),.int .i64 ((((x17.1.drop 1).drop 1)).getD 0 0),.int .i64 (((((x17.1.drop 1).drop 1).drop 1)).getD 0 0)] 98]) ⟨rfl,rfl,rfl,trivial⟩ rfl ?_)
  rintro b5
  refine zao 5 rfl ?_
  refine za2 (R':=SepR [Go.K.Rows (rowO 98) (V.take ((V.length:Int) - 1).toNat),Row (V.getD ((V.length:Int) - 1).toNat default).a 5 (V.getD ((V.length:Int) - 1).toNat default).cap 98 zba (V.getD ((V.length:Int) - 1).toNat default).s.opens]) 0 rfl (fun B w hA=>zot (f:=rowO 98) hi0 hA) ?_
  refine zbP ?_
  have hlo:=(zmh hq hV hi0).1
  refine zac ?_
  refine zjX (V:=fun z=>.slice z.1 (((V.getD ((V.length:Int) - 1).toNat default).s.opens++[(⟨x9.1,((x17.1).getD 0 0),(((x17.1.drop 1)).getD 0 0),((((x17.1.drop 1).drop 1)).getD 0 0),(((((x17.1.drop 1).drop 1).drop 1)).getD 0 0)⟩:Opn)])).length z.2) (R':=fun z:Option Addr×Nat=>Row z.1 5 z.2 98 zba ((V.getD ((V.length:Int) - 1).toNat default).s.opens++[(⟨x9.1,((x17.1).getD 0 0),(((x17.1.drop 1)).getD 0 0),((((x17.1.drop 1).drop 1)).getD 0 0),(((((x17.1.drop 1).drop 1).drop 1)).getD 0 0)⟩:Opn)])) (Bad:=fun _=>False) 7 [0] 1 56 (fun _=>mixed) rfl rfl (by kernel_rfl) rfl (fun _ hb=>hb.elim) rfl ?_
  refine zcf (zaf rfl) ?_
  refine zcf (zaf rfl) ?_
  refine zcf (zeP rfl (fun w hw=>zaO (i:=((V.length:Int) - 1)) (zam zbo (hw.has (p:=6) rfl)) (by omega) (by omega))) ?_
  refine zcf (zbh zhe rfl (fun w hw=>zaO (i:=((V.length:Int) - 1)) (zam zbo (hw.has (p:=6) rfl)) (by omega) (by omega))) ?_
  refine zcf (zbn tf92 rfl (fun _ hw=>(zam zbo (hw.has (p:=6) rfl))) (by omega) (by omega) rfl) ?_
  refine zcf (zat 8 tf98 rfl rfl (vs:=[_,_,_,_,_]) rfl rfl) ?_
  refine zqp (zaD rfl (zo2 _ _ _ _ _) encOpn_ok rfl) ?_
  refine⟨fun b55=>zhN (m:=[(⟨x9.1,((x17.1).getD 0 0),(((x17.1.drop 1)).getD 0 0),((((x17.1.drop 1).drop 1)).getD 0 0),(((((x17.1.drop 1).drop 1).drop 1)).getD 0 0)⟩:Opn)]) af92 encOpn_ok rfl rfl (fun _ hw=>(zam encOpn_ok (hw.has (p:=0) rfl))) (by first | omega | (simp only [List.length_cons,List.length_nil]; omega)) (by first | (unfold maxLen; omega) | (simp only [List.length_cons,List.length_nil,maxLen]; omega)),?_⟩
  intro z56
  intro b55
  refine zae (T':=[(4,_),(5,_),(49,_),(56,_)]) ⟨rfl,rfl,rfl,rfl,trivial⟩ ?_
  refine gQ (zeP rfl (fun w hw=>zaO (i:=((V.length:Int) - 1)) (zam zbo (hw.has (p:=7) rfl)) (by omega) (by omega))) ?_
  refine gQ (zbh zhe rfl (fun w hw=>zaO (i:=((V.length:Int) - 1)) (zam zbo (hw.has (p:=7) rfl)) (by omega) (by omega))) ?_
  refine zfG (x':=(⟨more (V.getD (((V.length:Int) - 1)).toNat default).s (⟨x9.1,(x17.1).getD 0 0,((x17.1).drop 1).getD 0 0,(((x17.1).drop 1).drop 1).getD 0 0,((((x17.1).drop 1).drop 1).drop 1).getD 0 0⟩:Opn),z56.1,z56.2⟩:WlC)) 7 zbo tf92 rfl rfl (vs:=[_]) rfl rfl (by decide) rfl rfl (by omega) (by omega) ?_
  refine zag (zae (T':=[(4,_),(5,_)]) ⟨rfl,rfl,trivial⟩ ?_)
  have hY:((V.set ((V.length:Int) - 1).toNat (⟨more (V.getD ((V.length:Int) - 1).toNat default).s (⟨x9.1,(x17.1).getD 0 0,((x17.1).drop 1).getD 0 0,(((x17.1).drop 1).drop 1).getD 0 0,((((x17.1).drop 1).drop 1).drop 1).getD 0 0⟩:Opn),z56.1,z56.2⟩:WlC)).getD ((V.length:Int) - 1).toNat default)=⟨more (V.getD ((V.length:Int) - 1).toNat default).s (⟨x9.1,(x17.1).getD 0 0,((x17.1).drop 1).getD 0 0,(((x17.1).drop 1).drop 1).getD 0 0,((((x17.1).drop 1).drop 1).drop 1).getD 0 0⟩:Opn),z56.1,z56.2⟩:=zwj hi0 _
  have hlN:(V.set ((V.length:Int) - 1).toNat (⟨more (V.getD ((V.length:Int) - 1).toNat default).s (⟨x9.1,(x17.1).getD 0 0,((x17.1).drop 1).getD 0 0,(((x17.1).drop 1).drop 1).getD 0 0,((((x17.1).drop 1).drop 1).drop 1).getD 0 0⟩:Opn),z56.1,z56.2⟩:WlC)).length=V.length:=List.length_set
  refine zac ?_
  refine zbb 6 (fun _=>mixed) (by kernel_rfl) ?_
  refine ph_y (zaf rfl) ?_
  refine ph_y (zeP rfl (fun w hw=>zaO (i:=((V.length:Int) - 1)) (zam zbo (hw.has (p:=7) rfl)) (by omega) (by omega))) ?_
  refine ph_y (zbv (vs:=[_,_,_,_]) tf94 rfl (fun _ hw=>(zam zbo (hw.has (p:=7) rfl))) (by omega) (by omega) rfl) ?_
  refine ph_y (zat 3 tf41 rfl rfl (vs:=[_,_,_,_,_,_,_,_,_,_,_,_,_,_,_,_,_,_,_,_]) rfl rfl) ?_
  refine ph_y (zaJ en48 rfl (fun w hw=>zmI _ _ ((V.set ((V.length:Int) - 1).toNat (⟨more (V.getD ((V.length:Int) - 1).toNat default).s (⟨x9.1,(x17.1).getD 0 0,((x17.1).drop 1).getD 0 0,(((x17.1).drop 1).drop 1).getD 0 0,((((x17.1).drop 1).drop 1).drop 1).getD 0 0⟩:Opn),z56.1,z56.2⟩:WlC)).getD ((V.length:Int) - 1).toNat default).s _ _ (zav S (V.getD ((V.length:Int) - 1).toNat default).s.sheet).s w (by rw [hY]; exact(zam encOpn_ok (hw.has (p:=2) rfl))) (by rw [hY]; exact zcM (hw.has (p:=2) rfl)) (by rw [hY]; have:=(zmh hq hV hi0).1; unfold zaP more; simp only [List.length_append,List.length_cons,List.length_nil]; omega) (by rw [hY]; exact zrI (zmh hq hV hi0).2 (zrC hx9 _ _ _ _)) (by rw [zf2,hS]; exact zqi hq _))) ?_
  refine ph_y (zbR rfl) ?_
  refine zag (zae (T':=[(64,_)]) ⟨rfl,trivial⟩ ?_)
  refine zao 2 rfl ?_
  refine zao 2 rfl ?_
  refine zbT 2 ?_
  refine za2 (R':=Go.K.Rows (rowO 98) (V.set ((V.length:Int) - 1).toNat (⟨more (V.getD ((V.length:Int) - 1).toNat default).s (⟨x9.1,(x17.1).getD 0 0,((x17.1).drop 1).getD 0 0,(((x17.1).drop 1).drop 1).getD 0 0,((((x17.1).drop 1).drop 1).drop 1).getD 0 0⟩:Opn),z56.1,z56.2⟩:WlC))) 0 rfl (fun B w hA=>zqF (f:=rowO 98) hi0 hA) ?_
  refine za2 (R':=Box p [.slice sa S.length sc,.slice wa (V.set ((V.length:Int) - 1).toNat (⟨more (V.getD ((V.length:Int) - 1).toNat default).s (⟨x9.1,(x17.1).getD 0 0,((x17.1).drop 1).getD 0 0,(((x17.1).drop 1).drop 1).getD 0 0,((((x17.1).drop 1).drop 1).drop 1).getD 0 0⟩:Opn),z56.1,z56.2⟩:WlC)).length wc] 31) 3 rfl (fun B w hA=>by rw [hlN]; exact hA) ?_
  refine zao 6 rfl ?_
  refine zao 6 rfl ?_
  refine zao 6 rfl ?_
  refine zao 6 rfl ?_
  refine zgU (y:=yP) (q:=⟨q.S,q.V.set (q.V.length - 1) (more (q.V.getD (q.V.length - 1) default) (⟨x9.1,(x17.1).getD 0 0,((x17.1).drop 1).getD 0 0,(((x17.1).drop 1).drop 1).getD 0 0,((((x17.1).drop 1).drop 1).drop 1).getD 0 0⟩:Opn))⟩) (hS) (zxy hV hi0 _ _ _) ?_
  rw [zf2,hS,hY,zsY hV hi0]
  refine zap rfl (fun hc64=>?_) (fun hc64=>?_)
  ·have h64:¬ zd1 (getS q.S (q.V.getD (q.V.length - 1) default).sheet).height (more (q.V.getD (q.V.length - 1) default) (⟨x9.1,(x17.1).getD 0 0,((x17.1).drop 1).getD 0 0,(((x17.1).drop 1).drop 1).getD 0 0,((((x17.1).drop 1).drop 1).drop 1).getD 0 0⟩:Opn))=true:=by simpa using hc64
   refine zaa ?_
   refine zcg en91 rfl (fun w hw=>zdk _ w) ?_
   exact zbG 0 rfl zdy (by rw [zch,hx9,zak,hx17,zak,hx19,zak]; exact(if_neg h25).trans (if_neg h64))
  ·have h64:zd1 (getS q.S (q.V.getD (q.V.length - 1) default).sheet).height (more (q.V.getD (q.V.length - 1) default) (⟨x9.1,(x17.1).getD 0 0,((x17.1).drop 1).getD 0 0,(((x17.1).drop 1).drop 1).getD 0 0,((((x17.1).drop 1).drop 1).drop 1).getD 0 0⟩:Opn))=true:=by simpa using hc64
   refine zaq ?_
   exact zik ⟨q.S,q.V.set (q.V.length - 1) (more (q.V.getD (q.V.length - 1) default) (⟨x9.1,(x17.1).getD 0 0,((x17.1).drop 1).getD 0 0,(((x17.1).drop 1).drop 1).getD 0 0,((((x17.1).drop 1).drop 1).drop 1).getD 0 0⟩:Opn))⟩ () 0 (zcN rfl) rfl rfl (by rw [zch,hx9,zak,hx17,zak,hx19,zak]; exact(if_neg h25).trans (if_pos h64))
end Go.Proofs.YtdcfcfhmkfkgmaaGreatDoor
namespace Go.Proofs.YtdcfcfhmkfkgmaaGreatDoor
open Go.K Go.Stn Go.Pln Go.RowKit
theorem tf33:TF Tryz.prog 33 false 1 (.int IntKind.i64 0):=⟨by kernel_rfl,by kernel_rfl⟩
theorem zrJ:MT Tryz.prog 164 9 162 1 false (.nilFunc):=⟨Tryz.underlying164,Tryz.underlying9,⟨by kernel_rfl,by kernel_rfl⟩⟩
set_option maxRecDepth 100000 in
theorem zdn {c:Cx} (hP:c.P=Tryz.prog) {H:List Res} {b:Nat} {k0 k:Int} {w:World} (hw:Hp c.U c.w0 (Box b [.int .i64 k0] 33 :: H) w) :
  CallsDIn Fence.wide 0 c.P 87 [.pointer (some ⟨b,0,none⟩)].toArray (.panicking (thrC (errT 33 k))) w (fun e u' w'=>(∃ v,e=.returned v)∧settle u' = .returning∧Hp c.U c.w0 (Box b [.int .i64 k] 33 :: H) w'):=by
 rw [hP]
 refine CallsDIn.mono (zfR (c:=⟨none,Tryz.prog,11,c.U,c.w0⟩) (H':=Box b [.int .i64 k] 33 :: H) (vs:=[_]) rfl Tryz.func87 rfl rfl (Nat.le_of_ble_eq_true rfl) (Nat.le_of_ble_eq_true rfl) (fun c₀ cs h=>.inl (zor c₀ cs h)) hw ?_) ?_
 ·refine zas ?_
  refine zac ?_
  refine zaa ?_
  refine gQ (zjA (by first | exact Tryz.underlying20 | kernel_rfl) rfl (.inr ⟨_,_,rfl⟩)) ?_
  refine zag (zae (T':=[(0,_),(4,_),(6,_)]) ⟨rfl,rfl,rfl,trivial⟩ ?_)
  refine zd8 rfl ?_
  refine zac ?_
  refine zaa ?_
  refine gQ (zlN if33 rfl) ?_
  refine gQ (zaB rfl rfl) ?_
  refine gQ (zaB rfl rfl) ?_
  refine zag (zae (T':=[(0,_),(8,_),(9,_)]) ⟨rfl,rfl,rfl,trivial⟩ ?_)
  refine zdg rfl ?_
  refine zac ?_
  refine zaa ?_
  refine gQ (zad rfl) ?_
  refine zag (zae (T':=[(0,_),(2,_)]) ⟨rfl,rfl,trivial⟩ ?_)
  refine zaa ?_
  refine gQ (zaf rfl) ?_
  refine zaA 0 tf33 rfl rfl (vs:=[_]) rfl rfl rfl rfl rfl ?_
  refine zag ?_
  exact zvZ (zcN rfl)
 ·rintro e u w' ⟨h1,rfl,h3⟩
  exact⟨h1,zov,h3⟩
set_option maxRecDepth 100000 in
theorem zgX {c:Cx} (hP:c.P=Tryz.prog) {H:List Res} {b:Nat} {w:World} (hw:Hp c.U c.w0 H w) :
  CallsDIn Fence.wide 0 c.P 87 [.pointer (some ⟨b,0,none⟩)].toArray .returning w (fun e u' w'=>(∃ v,e=.returned v)∧settle u' = .returning∧Hp c.U c.w0 H w'):=by
 rw [hP]
 refine CallsDIn.mono (zfR (c:=⟨none,Tryz.prog,11,c.U,c.w0⟩) (H':=H) (vs:=[_]) rfl Tryz.func87 rfl rfl (Nat.le_of_ble_eq_true rfl) (Nat.le_of_ble_eq_true rfl) (fun c₀ cs h=>.inr ⟨zkk c₀ cs h,rfl,rfl⟩) hw ?_) ?_
 ·refine zas ?_
  refine zac ?_
  refine zaa ?_
  refine gQ (zjA (by first | exact Tryz.underlying20 | kernel_rfl) rfl (.inl rfl)) ?_
  refine zag (zae (T':=[(0,_),(4,_),(6,_)]) ⟨rfl,rfl,rfl,trivial⟩ ?_)
  refine zdg rfl ?_
  refine zaa ?_
  refine gQ (zad rfl) ?_
  refine zag ?_
  exact zvZ (zcN rfl)
 ·rintro e u w' ⟨h1,rfl,h3⟩
  exact⟨h1,rfl,h3⟩
def zeR (b:Nat):List (ByteArray×Value):=[(⟨#[115,104,101,101,116]⟩,.func (.func 109) #[] #[.pointer (some ⟨b,0,none⟩)]),(⟨#[119,97,108,108]⟩,.func (.func 112) #[] #[.pointer (some ⟨b,0,none⟩)]),(⟨#[111,112,101,110]⟩,.func (.func 115) #[] #[.pointer (some ⟨b,0,none⟩)])]
abbrev zsz (z:Nat×Nat) (p:Nat):Res:=SepR [MapR z.1 (zeR z.2),Box z.2 [.pointer (some ⟨p,0,none⟩)] 157]
set_option maxRecDepth 100000 in
set_option maxHeartbeats 1000000 in
theorem ztV (p:Nat) (w:World)  :
  Calls Tryz.prog 89 #[.pointer (some ⟨p,0,none⟩)] w (zcU (fun z:Nat×Nat=>.map (some z.1)) (fun z=>zsz z p) w):=by
 refine zan (vs:=[_]) Tryz.func89 rfl rfl (Nat.le_of_ble_eq_true rfl) ?_
 refine zac ?_
 refine zaa ?_
 refine zaG rfl rfl (za3 (vs:=[_]) rfl rfl) fun b1=>?_
 refine gQ (zad rfl) ?_
 refine zag (zae (T':=[(1,_),(2,_)]) ⟨rfl,rfl,trivial⟩ ?_)
 refine zac ?_
 refine zaa ?_
 refine zaG rfl rfl (zmM) fun b3=>?_
 refine gQ (zbO («as»:=[]) (bs:=[_]) rfl rfl) ?_
 refine zig 0 zrJ rfl rfl rfl rfl (by rfl) ?_
 refine gQ (zbO («as»:=[]) (bs:=[_]) rfl rfl) ?_
 refine zig 0 zrJ rfl rfl rfl rfl (by show mget [_] _=none; rw [mget,if_neg (show ¬ ((⟨#[119,97,108,108]⟩:ByteArray) == ⟨#[115,104,101,101,116]⟩)=true by decide)]; rfl) ?_
 refine gQ (zbO («as»:=[]) (bs:=[_]) rfl rfl) ?_
 refine zig 0 zrJ rfl rfl rfl rfl (by show mget [_,_] _=none; rw [mget,if_neg (show ¬ ((⟨#[111,112,101,110]⟩:ByteArray) == ⟨#[115,104,101,101,116]⟩)=true by decide),mget,if_neg (show ¬ ((⟨#[111,112,101,110]⟩:ByteArray) == ⟨#[119,97,108,108]⟩)=true by decide)]; rfl) ?_
 refine gQ (zaf rfl) ?_
 refine gQ (zad rfl) ?_
 refine zag (zae (T':=[(2,_)]) ⟨rfl,trivial⟩ ?_)
 refine zao 1 rfl ?_
 refine zao 1 rfl ?_
 refine zbT 2 ?_
 refine za2 (R':=zsz (b3,b1) p) 0 rfl (fun B w hA=>hA) ?_
 refine zaw ?_
 exact zbd (b3,b1) 0 (zaC rfl (zau rfl)) rfl rfl
end Go.Proofs.YtdcfcfhmkfkgmaaGreatDoor
namespace Go.Pln
open Go Go.K Go.RowKit Go.Stn Go.Txt
theorem zkO (c:UInt8):∀ l:List UInt8,(cutL c l).length≤l.length+1
 | []=>by simp [cutL]
 | x :: r=>by
  have:=zkO c r
  rw [cutL]
  split
  ·simp; omega
  ·split
   ·simp
   ·rename_i e; rw [e] at this; simp at this ⊢; omega
theorem zjw (s:ByteArray) (c:UInt8):1≤(zcn s c).length∧(zcn s c).length≤s.size+1:=by
 have h1:=zkO c s.data.toList
 have h2:=zm4 c s.data.toList
 rw [←ziG,List.length_map] at h1 h2
 have h3:s.data.toList.length=s.size:=by rw [Array.length_toList]; rfl
 omega
theorem zns (s:ByteArray):mkB s.data.toList=s:=by
 cases s; simp [mkB]
theorem zcT (s:ByteArray) (c:UInt8):zcn s c=(cutL c s.data.toList).map mkB:=by
 rw [←ziG,List.map_map]
 conv=>lhs; rw [←List.map_id (zcn s c)]
 exact List.map_congr_left fun x _=>(zns x).symm
def zfN:List ByteArray→List ByteArray
 | []=>[]
 | [x]=>if x.size=0 then [] else [x]
 | x :: y :: r=>x :: zfN (y :: r)
def zcb (t:ByteArray):List ByteArray:=zfN (zcn t 10)
def cutA (t:ByteArray):ByteArray:=mkB (Lib.cut t.data.toList [10]).1
def cutB (t:ByteArray):ByteArray:=mkB (Lib.cut t.data.toList [10]).2.1
theorem znt (l:List UInt8):(mkB l).size=l.length:=by show l.toArray.size=l.length; simp
theorem zp4 {t:ByteArray} (h:t.size=0):zcb t=[]:=by
 have h1:t.data.toList=[]:=List.eq_nil_of_length_eq_zero (by rw [Array.length_toList]; exact h)
 unfold zcb
 rw [zcT,h1]
 rfl
theorem zol {t:ByteArray} (h:t.size≠0):zcb t=cutA t :: zcb (cutB t):=by
 unfold zcb cutA cutB
 rw [zcT,zcT]
 rcases zm5 t.data.toList 10 with ⟨p,r,h1,h2,h3⟩ | ⟨h1,h2⟩
 ·rw [h3,h1,zhx h2]
  show zfN (mkB p :: (cutL 10 r).map mkB)=mkB p :: zfN ((cutL 10 r).map mkB)
  have:=zm4 10 r
  cases hc:cutL 10 r with
  | nil=>rw [hc] at this; simp at this
  | cons a b=>rfl
 ·rw [h2,zeD h1]
  show(if (mkB t.data.toList).size=0 then [] else [mkB t.data.toList])=mkB t.data.toList :: []
  rw [if_neg (by rw [zns]; exact h)]
theorem zkN {t:ByteArray} (h:t.size≠0):(cutB t).size < t.size:=by
 have h3:t.data.toList.length=t.size:=by rw [Array.length_toList]; rfl
 unfold cutB
 rw [znt]
 rcases zm5 t.data.toList 10 with ⟨p,r,h1,h2,h3⟩ | ⟨h1,h2⟩
 ·rw [h3]
  have:=congrArg List.length h1
  simp at this
  dsimp only
  omega
 ·rw [h2]; dsimp only; simp; omega
theorem zgY {t u:ByteArray} {i:Nat} (h:zcb u=(zcb t).drop i) (hu:u.size≠0):zcb (cutB u)=(zcb t).drop (i+1)∧(zcb t)[i]?=some (cutA u):=by
 rw [zol hu] at h
 constructor
 ·rw [show(zcb t).drop (i+1)=((zcb t).drop i).drop 1 from by rw [List.drop_drop],←h]; rfl
 ·have:=congrArg (fun l=>l[0]?) h
  simpa using this.symm
theorem zp3 {t u:ByteArray} {i:Nat} (h:zcb u=(zcb t).drop i) (hu:u.size=0) (hi:i≤(zcb t).length):i=(zcb t).length:=by
 rw [zp4 hu] at h
 have:=congrArg List.length h
 simp at this
 omega
theorem zlh:∀ {l:List ByteArray} {x:ByteArray},x∈zfN l→x∈l
 | [],_,h=>h
 | [x],y,h=>by
  rw [zfN] at h
  split at h
  ·cases h
  ·exact h
 | a :: b :: r,y,h=>by
  rw [zfN] at h
  rcases List.mem_cons.1 h with h' | h'
  ·exact List.mem_cons.2 (.inl h')
  ·exact List.mem_cons_of_mem _ (zlh h')
def idle (t:ByteArray):Bool:=t.size == 0||zee t 0 == 35
def zdo (q:Plan) (n:Int):List ByteArray→Except (Int×Int) Plan
 | []=>.ok q
 | t :: r=>if idle t=true then zdo q (n+1) r else match zcu q t with
  | .error k=>.error (n,k)
  | .ok q'=>zdo q' (n+1) r
def zgA (t:ByteArray):Plan×Int×Int:=
 if t.size > 40000 then(⟨[],[]⟩,0,5) else match zdo ⟨[],[]⟩ 1 (zcb t) with
 | .ok q=>(q,0,0)
 | .error x=>(⟨[],[]⟩,x.1,x.2)
end Go.Pln
namespace Go.Proofs.YtdcfcfhmkfkgmaaGreatDoor
open Go.K Go.Stn Go.Pln Go.RowKit
theorem en87:En Tryz.prog 87:=za7 Tryz.func87 (by kernel_rfl) (by kernel_rfl)
theorem en88:En Tryz.prog 88:=za7 Tryz.func88 (by kernel_rfl) (by kernel_rfl)
theorem en89:En Tryz.prog 89:=za7 Tryz.func89 (by kernel_rfl) (by kernel_rfl)
theorem zw2:En Tryz.prog 109:=za7 Tryz.func109 (by kernel_rfl) (by kernel_rfl)
theorem zw4:En Tryz.prog 112:=za7 Tryz.func112 (by kernel_rfl) (by kernel_rfl)
theorem zw5:En Tryz.prog 115:=za7 Tryz.func115 (by kernel_rfl) (by kernel_rfl)
theorem zrb (x0a:Option Addr) (x0n x0c:Nat) (w:World):(Instr.build 161 #[(0,.slice x0a x0n x0c)]).run Tryz.prog w=.ok (.agg #[.slice x0a x0n x0c]) w:=by kernel_rfl
theorem zgv {p:Nat} {q:Plan} {t:ByteArray} {P:Program} {n:Nat} {w w':World} {B:Nat→Prop} {H:List Res} {k:Int} {R:Res} (i:Nat) (hi:H[i]?=some R) (hR:∀ B w,R.A B w→(plAt yP p).A B w) (he:zcu q t=.error k) (hw:Hp (cxB P n w B).U (cxB P n w B).w0 H w') :
  zho (fun _:Unit=>.int .i64 (zkJ (zcu q t))) (fun _=>plOr yP p (zcu q t)) (fun _=>True) B w (.returned (.int .i64 k)) w':=by
 rw [he]
 obtain⟨B',h1,h2,_,h3⟩:=zet hw hi
 exact⟨(),B',rfl,trivial,h1,h2,hR _ _ h3⟩
theorem zmi {p:Nat} {q q':Plan} {t:ByteArray} {P:Program} {n:Nat} {w w':World} {B:Nat→Prop} {H:List Res} {i:Nat} (he:zcu q t=.ok q') (hw:Hp (cxB P n w B).U (cxB P n w B).w0 H w') (hi:H[i]?=some (PlE yP p q')) :
  zho (fun _:Unit=>.int .i64 (zkJ (zcu q t))) (fun _=>plOr yP p (zcu q t)) (fun _=>True) B w (.returned (.int .i64 0)) w':=by
 rw [he]
 obtain⟨B',h1,h2,_,h3⟩:=zet hw hi
 exact⟨(),B',rfl,trivial,h1,h2,h3⟩
theorem zmd {b:Nat} {u:ByteArray} (h:(mget (zeR b) u).isSome=true) :
  ((u == ⟨#[115,104,101,101,116]⟩)=true∧mget (zeR b) u=some (.func (.func 109) #[] #[.pointer (some ⟨b,0,none⟩)]))∨(¬ (u == ⟨#[115,104,101,101,116]⟩)=true∧(u == ⟨#[119,97,108,108]⟩)=true∧mget (zeR b) u=some (.func (.func 112) #[] #[.pointer (some ⟨b,0,none⟩)])) ∨
  (¬ (u == ⟨#[115,104,101,101,116]⟩)=true∧¬ (u == ⟨#[119,97,108,108]⟩)=true∧(u == ⟨#[111,112,101,110]⟩)=true∧mget (zeR b) u=some (.func (.func 115) #[] #[.pointer (some ⟨b,0,none⟩)])):=by
 unfold zeR mget mget mget mget at *
 by_cases h1:(u == ⟨#[115,104,101,101,116]⟩)=true
 ·exact .inl ⟨h1,if_pos h1⟩
 ·by_cases h2:(u == ⟨#[119,97,108,108]⟩)=true
  ·exact .inr (.inl ⟨h1,h2,(if_neg h1).trans (if_pos h2)⟩)
  ·by_cases h3:(u == ⟨#[111,112,101,110]⟩)=true
   ·exact .inr (.inr ⟨h1,h2,h3,(if_neg h1).trans ((if_neg h2).trans (if_pos h3))⟩)
   ·rw [if_neg h1,if_neg h2,if_neg h3] at h; cases h
theorem zmc {b:Nat} {q:Plan} {u:ByteArray} {ws:List ByteArray} (h:(mget (zeR b) u).isSome=false):zff q u ws=.error 4:=by
 unfold zeR mget mget mget mget at h
 unfold zff
 by_cases h1:(u == ⟨#[115,104,101,101,116]⟩)=true
 ·rw [if_pos h1] at h; cases h
 ·by_cases h2:(u == ⟨#[119,97,108,108]⟩)=true
  ·rw [if_neg h1,if_pos h2] at h; cases h
  ·by_cases h3:(u == ⟨#[111,112,101,110]⟩)=true
   ·rw [if_neg h1,if_neg h2,if_pos h3] at h; cases h
   ·rw [if_neg h1,if_neg h2,if_neg h3]
set_option maxRecDepth 100000 in
set_option maxHeartbeats 8000000 in
theorem zv6 (p:Nat) (q:Plan) (t:ByteArray) (w:World) (B:Nat→Prop) (hB:∀ k,B k→k < w.heap.size) (hA:(PlP p q).A B w) (hq:OkQ q) (ht:t.size≤40000) (hmx:Rd (fun k=>k < w.heap.size∧¬ B k) w (IntV 2)) (hcp:Rd (fun k=>k < w.heap.size∧¬ B k) w (zaW (some ⟨0,0,none⟩) 1 encS copesW)) (hop:Rd (fun k=>k < w.heap.size∧¬ B k) w (zaW (some ⟨1,0,none⟩) 1 encS opensW)) :
  Calls Tryz.prog 59 #[.pointer (some ⟨p,0,none⟩),.string t] w (zho (fun _:Unit=>.int .i64 (zkJ (zcu q t))) (fun _=>plOr yP p (zcu q t)) (fun _=>True) B w):=by
 refine zby hB hA (vs:=[_,_]) Tryz.func59 rfl rfl (Nat.le_of_ble_eq_true rfl) ?_
 refine zac ?_
 refine zaa ?_
 refine zaG rfl rfl (zaL tf33 (zs:=[_]) rfl) fun b4=>?_
 refine zag (zae (T':=[(0,_),(1,_),(4,_)]) ⟨rfl,rfl,rfl,trivial⟩ ?_)
 refine zac ?_
 refine zaa ?_
 refine gQ (zbO («as»:=[]) (bs:=[_]) rfl rfl) ?_
 refine zru (cap:=[_]) rfl rfl rfl ?_
 refine zag (zae (T':=[(0,_),(1,_),(4,_)]) ⟨rfl,rfl,rfl,trivial⟩ ?_)
 refine zac ?_
 refine zaa ?_
 refine gQ (zaf rfl) ?_
 refine zaG rfl rfl (zbm en88 rfl (fun w hw=>zuJ t 32 w (by omega) (Rd.has hmx hw))) fun b10=>?_
 refine gQ (zaI rfl (zrb _ _ _)) ?_
 refine zaG rfl rfl (za3 (vs:=[_]) rfl rfl) fun b12=>?_
 refine gQ (zad rfl) ?_
 refine zag (zae (T':=[(0,_),(4,_),(5,_)]) ⟨rfl,rfl,rfl,trivial⟩ ?_)
 refine zao 1 rfl ?_
 refine za2 (R':=zaW (some ⟨b10,0,none⟩) 1 encS (zcn t 32)) 0 rfl (fun B w hA=>Row.elems ztJ hA) ?_
 refine zao 1 rfl ?_
 refine zeH (Nat.le_refl _) ?_
 refine zac ?_
 refine zaa ?_
 refine gQ (zaf rfl) ?_
 refine zaG rfl rfl (zbm en89 rfl (fun w hw=>ztV p w)) fun m15=>?_
 refine gQ (zaf rfl) ?_
 refine zbZ (res:=zdp (zcn t 32)) 1 en90 rfl rfl rfl (fun w B hF=>zli b12 (zcn t 32) w B (fun k hk=>(hF.own k hk).2) hF.A) (fun k hk17=>?_) (fun x17 m17 hx17=>?_)
 ·
  refine zao 2 rfl ?_
  exact zfg (H':=Box b4 [.int .i64 k] 33 :: _) en87 (fun w hw=>zdn rfl hw) (zaC rfl (zcy (i:=0) tf33 rfl rfl rfl)) (fun w hw=>zgv 3 rfl zdy (by rw [zcu,hk17]; rfl) hw)
 refine zbP ?_
 refine gQ (zmL zrJ rfl rfl (fun _ hw=>hw.has (p:=0) rfl)) ?_
 refine gQ (zaf rfl) ?_
 refine gQ (zaB rfl rfl) ?_
 refine gQ (zaB rfl rfl) ?_
 refine gQ (zad rfl) ?_
 refine gQ (zad rfl) ?_
 refine zag (zae (T':=[(4,_),(5,_),(6,_),(7,_)]) ⟨rfl,rfl,rfl,rfl,trivial⟩ ?_)
 have hws17:x17.2.length≤100000:=by have:=(zjw t 32).2; have:=zka hx17; omega
 refine zac ?_
 refine zac ?_
 refine zaa ?_
 refine gQ (zaf rfl) ?_
 refine gQ (zbR rfl) ?_
 refine zag (zae (T':=[(4,_),(5,_),(6,_),(22,_)]) ⟨rfl,rfl,rfl,rfl,trivial⟩ ?_)
 refine zap rfl (fun hc22=>?_) (fun hc22=>?_)
 ·
  refine zaa ?_
  refine zcg en91 rfl (fun w hw=>zdk _ w) ?_
  refine zao 3 rfl ?_
  exact zfg (H':=Box b4 [.int .i64 4] 33 :: _) en87 (fun w hw=>zdn rfl hw) (zaC rfl (zcy (i:=0) tf33 rfl rfl rfl)) (fun w hw=>zgv 4 rfl zdy (by rw [zcu,hx17,zak]; exact zmc (by simpa using hc22)) hw)
 ·have h22:(mget (zeR m15.2) x17.1).isSome=true:=by simpa using hc22
  rcases zmd h22 with ⟨hu,hm⟩ | ⟨hu0,hu,hm⟩ | ⟨hu0,hu1,hu,hm⟩
  ·
   refine zae (T':=[(4,_),(5,_),(6,.func (.func 109) #[] #[.pointer (some ⟨m15.2,0,none⟩)]),(22,_)]) ⟨rfl,rfl,(by show some ((mget (zeR m15.2) x17.1).getD _)=_; rw [hm]; rfl),rfl,trivial⟩ ?_
   refine zaq ?_
   refine zac ?_
   refine zaa ?_
   refine gQ (zaf rfl) ?_
   refine gQ (zaf rfl) ?_
   refine zao 4 rfl ?_
   refine zao 3 rfl ?_
   refine zbT 2 ?_
   refine zie (res:=zb3 q x17.2) (fs:=[]) (cap:=[_]) 0 zw2 rfl rfl rfl rfl (fun w B hF=>ztS b12 x17.2 p q m15.2 w B (fun k hk=>(hF.own k hk).2) hF.A hq (hF.other 1 rfl) hws17 (hF.rd hcp)) (fun k hk26=>?_) (fun x26 m26 hx26=>?_)
   ·
    refine zao 3 rfl ?_
    exact zfg (H':=Box b4 [.int .i64 k] 33 :: _) en87 (fun w hw=>zdn rfl hw) (zaC rfl (zcy (i:=0) tf33 rfl rfl rfl)) (fun w hw=>zgv 1 rfl zmt (by rw [zcu,hx17,zak,zff,if_pos hu]; exact hk26) hw)
   refine zag (zae (T':=[(4,_)]) ⟨rfl,trivial⟩ ?_)
   refine zac ?_
   refine zaa ?_
   refine zaA 3 tf33 rfl rfl (vs:=[_]) rfl rfl rfl rfl rfl ?_
   refine zag (zae (T':=[(4,_)]) ⟨rfl,trivial⟩ ?_)
   refine zaw ?_
   exact zgW en87 (fun w hw=>zgX rfl hw) (zaC rfl (zcy (i:=3) tf33 rfl rfl rfl)) (fun w hw=>zmi (by rw [zcu,hx17,zak,zff,if_pos hu]; exact hx26) hw (i:=0) rfl)
  ·
   refine zae (T':=[(4,_),(5,_),(6,.func (.func 112) #[] #[.pointer (some ⟨m15.2,0,none⟩)]),(22,_)]) ⟨rfl,rfl,(by show some ((mget (zeR m15.2) x17.1).getD _)=_; rw [hm]; rfl),rfl,trivial⟩ ?_
   refine zaq ?_
   refine zac ?_
   refine zaa ?_
   refine gQ (zaf rfl) ?_
   refine gQ (zaf rfl) ?_
   refine zao 4 rfl ?_
   refine zao 3 rfl ?_
   refine zbT 2 ?_
   refine zie (res:=zb1 q x17.2) (fs:=[]) (cap:=[_]) 0 zw4 rfl rfl rfl rfl (fun w B hF=>ztT b12 x17.2 p q m15.2 w B (fun k hk=>(hF.own k hk).2) hF.A hq (hF.other 1 rfl) hws17) (fun k hk26=>?_) (fun x26 m26 hx26=>?_)
   ·
    refine zao 3 rfl ?_
    exact zfg (H':=Box b4 [.int .i64 k] 33 :: _) en87 (fun w hw=>zdn rfl hw) (zaC rfl (zcy (i:=0) tf33 rfl rfl rfl)) (fun w hw=>zgv 1 rfl zmt (by rw [zcu,hx17,zak,zff,if_neg hu0,if_pos hu]; exact hk26) hw)
   refine zag (zae (T':=[(4,_)]) ⟨rfl,trivial⟩ ?_)
   refine zac ?_
   refine zaa ?_
   refine zaA 3 tf33 rfl rfl (vs:=[_]) rfl rfl rfl rfl rfl ?_
   refine zag (zae (T':=[(4,_)]) ⟨rfl,trivial⟩ ?_)
   refine zaw ?_
   exact zgW en87 (fun w hw=>zgX rfl hw) (zaC rfl (zcy (i:=3) tf33 rfl rfl rfl)) (fun w hw=>zmi (by rw [zcu,hx17,zak,zff,if_neg hu0,if_pos hu]; exact hx26) hw (i:=0) rfl)
  ·
   refine zae (T':=[(4,_),(5,_),(6,.func (.func 115) #[] #[.pointer (some ⟨m15.2,0,none⟩)]),(22,_)]) ⟨rfl,rfl,(by show some ((mget (zeR m15.2) x17.1).getD _)=_; rw [hm]; rfl),rfl,trivial⟩ ?_
   refine zaq ?_
   refine zac ?_
   refine zaa ?_
   refine gQ (zaf rfl) ?_
   refine gQ (zaf rfl) ?_
   refine zao 4 rfl ?_
   refine zao 3 rfl ?_
   refine zbT 2 ?_
   refine zie (res:=zch q x17.2) (fs:=[]) (cap:=[_]) 0 zw5 rfl rfl rfl rfl (fun w B hF=>ztU b12 x17.2 p q m15.2 w B (fun k hk=>(hF.own k hk).2) hF.A hq (hF.other 1 rfl) hws17 (hF.rd hop)) (fun k hk26=>?_) (fun x26 m26 hx26=>?_)
   ·
    refine zao 3 rfl ?_
    exact zfg (H':=Box b4 [.int .i64 k] 33 :: _) en87 (fun w hw=>zdn rfl hw) (zaC rfl (zcy (i:=0) tf33 rfl rfl rfl)) (fun w hw=>zgv 1 rfl zmt (by rw [zcu,hx17,zak,zff,if_neg hu0,if_neg hu1,if_pos hu]; exact hk26) hw)
   refine zag (zae (T':=[(4,_)]) ⟨rfl,trivial⟩ ?_)
   refine zac ?_
   refine zaa ?_
   refine zaA 3 tf33 rfl rfl (vs:=[_]) rfl rfl rfl rfl rfl ?_
   refine zag (zae (T':=[(4,_)]) ⟨rfl,trivial⟩ ?_)
   refine zaw ?_
   exact zgW en87 (fun w hw=>zgX rfl hw) (zaC rfl (zcy (i:=3) tf33 rfl rfl rfl)) (fun w hw=>zmi (by rw [zcu,hx17,zak,zff,if_neg hu0,if_neg hu1,if_pos hu]; exact hx26) hw (i:=0) rfl)
end Go.Proofs.YtdcfcfhmkfkgmaaGreatDoor
namespace Go.Proofs.YtdcfcfhmkfkgmaaGreatDoor
open Go.K Go.Stn Go.Pln Go.RowKit
theorem en86:En Tryz.prog 86:=za7 Tryz.func86 (by kernel_rfl) (by kernel_rfl)
def numV:Int→List ByteArray→List (List Value)
 | _,[]=>[]
 | n,t :: r=>[.int .i64 n,.string t] :: numV (n+1) r
theorem zhz:∀ (n:Int) (l:List ByteArray),(numV n l).length=l.length
 | _,[]=>rfl
 | n,t :: r=>by rw [numV,List.length_cons,List.length_cons,zhz (n+1) r]
theorem zkc {u:ByteArray}:∀ {l:List ByteArray} {k:Int} {i:Nat},l[i]?=some u→(numV k l)[i]?=some [.int .i64 (k+i),.string u]
 | [],_,_,h=>by simp at h
 | t :: r,k,0,h=>by
  simp at h
  rw [numV,h]
  simp
 | t :: r,k,i+1,h=>by
  rw [List.getElem?_cons_succ] at h
  rw [numV,List.getElem?_cons_succ,zkc h,show k+1+(i:Int)=k+((i+1:Nat):Int) from by omega]
theorem zuk {n:Int} {l:List ByteArray} {u:ByteArray} (h1:1≤n) (h:l[(n - 1).toNat]?=some u):(numV 1 l)[(n - 1).toNat]?=some [.int .i64 n,.string u]:=by
 rw [zkc h,show 1+((n - 1).toNat:Int)=n from by omega]
theorem zkQ:∀ l:List ByteArray,(zfN l).length≤l.length
 | []=>Nat.le_refl _
 | [x]=>by rw [zfN]; split <;> simp
 | x :: y :: r=>by have:=zkQ (y :: r); rw [zfN,List.length_cons,List.length_cons]; omega
theorem zp5 (t:ByteArray):(zcb t).length≤t.size+1:=Nat.le_trans (zkQ _) (zjw t 10).2
theorem ze8 {u:ByteArray}:(u.toList == (⟨#[]⟩:ByteArray).toList)=true↔u.size=0:=by
 rw [Lib.toList_data,Lib.toList_data,beq_iff_eq]
 constructor
 ·intro h
  have:=congrArg List.length h
  rw [Array.length_toList] at this
  exact this
 ·intro h
  exact List.eq_nil_of_length_eq_zero (by rw [Array.length_toList]; exact h)
theorem ztx (s:ByteArray) (w:World) (hs:s.size < 4294967281) (hm:Has w (IntV 2)):Calls Tryz.prog 86 #[.string s,.string ⟨#[10]⟩] w (Pure (.tuple #[.string (cutA s),.string (cutB s),.bool (Lib.cut s.data.toList [10]).2.2]) w):=zww s _ w hs hm
set_option maxRecDepth 100000 in
set_option maxHeartbeats 1000000 in
theorem zrG (t:ByteArray) (b:Nat) (ht:t.size≤40000) :
  zu2 Tryz.prog 85 [.pointer (some ⟨b,0,none⟩)] (numV 1 (zcb t)) (Box b [.string t] 9) (IntV 2):=by
 intro X J Rl D y w B C x0 hB hC hA hO h0 hS hy
 have hnum:=zp5 t
 refine zby (B:=fun k=>B k∨C k) (fun k h=>h.elim (hB k) (fun h=>(hC k h).1)) (zsg hA hO (fun k h=>(hC k h).2)) (vs:=[_,_]) Tryz.func85 rfl rfl (Nat.le_of_ble_eq_true rfl) ?_
 have ins0:=zpY Tryz.prog Tryz.f85.ntmps w (fun k=>B k∨C k)
 refine zbP ?_
 refine zac ?_
 refine zaa ?_
 refine gQ (zad rfl) ?_
 refine zag (zae (T':=[(0,_),(1,_),(3,_)]) ⟨rfl,rfl,rfl,trivial⟩ ?_)
 refine zas ?_
 refine zbf (X:=Int×ByteArray×X) (fun⟨n,u,x2⟩=>[(0,.func (.yield y) #[] #[]),(1,.pointer (some ⟨b,0,none⟩)),(3,.int .i64 n)]) (fun⟨n,u,x2⟩=>[J x2,Box b [.string u] 9]) (fun⟨n,u,x2⟩=>(1≤n∧zcb u=(zcb t).drop (n - 1).toNat∧(n - 1).toNat≤(zcb t).length∧u.size≤t.size∧Rl (n - 1).toNat x2)) (fun⟨n,u,x2⟩=>u.size) (1,t,x0) ⟨rfl,rfl,rfl,trivial⟩ rfl ?_ ?_
 ·exact⟨by omega,rfl,by simp,Nat.le_refl _,h0⟩
 ·rintro ⟨n,u,x2⟩ hI
  obtain⟨g0,g1,g2,g3,g4⟩:=hI
  refine zac ?_
  refine zac ?_
  refine zaa ?_
  refine gQ (zah 1 tf9 rfl rfl rfl) ?_
  refine gQ (ziV rfl rfl) ?_
  refine zag (zae (T':=[(0,_),(1,_),(3,_),(8,_)]) ⟨rfl,rfl,rfl,rfl,trivial⟩ ?_)
  refine zap rfl (fun hc8=>?_) (fun hc8=>?_)
  ·have hu:u.size≠0:=fun h=>by rw [ze8.2 h] at hc8; exact Bool.noConfusion hc8
   refine zaq ?_
   refine zac ?_
   refine zas ?_
   refine zac ?_
   refine zaa ?_
   refine gQ (zah 1 tf9 rfl rfl rfl) ?_
   refine gQ (zaJ en86 rfl (fun w hw=>ztx u w (by omega) (Rd.has hS hw))) ?_
   refine gQ (zaf rfl) ?_
   refine gQ (zaB rfl rfl) ?_
   refine gQ (zaB rfl rfl) ?_
   refine gQ (zaB rfl rfl) ?_
   refine gQ (zad rfl) ?_
   refine gQ (zad rfl) ?_
   refine gQ (zad rfl) ?_
   refine zag (zae (T':=[(0,_),(1,_),(3,_),(4,_),(5,_)]) ⟨rfl,rfl,rfl,rfl,rfl,trivial⟩ ?_)
   refine zac ?_
   refine zac ?_
   refine zaa ?_
   refine gQ (zaf rfl) ?_
   refine gQ (zaf rfl) ?_
   refine gQ (zaf rfl) ?_
   refine znl 0 ins0 rfl rfl rfl rfl (hy _ _ _ (zuk g0 (zgY g1 hu).2) g4) fun b20 x20 hp20=>?_
   refine gQ (zbR rfl) ?_
   refine zag (zae (T':=[(0,_),(1,_),(3,_),(5,_),(21,_)]) ⟨rfl,rfl,rfl,rfl,rfl,trivial⟩ ?_)
   refine zap rfl (fun hc21=>?_) (fun hc21=>?_)
   ·
    refine zaw ?_
    refine zd9 x20 0 (zcN rfl) rfl rfl (.inr (by have:=hp20; rwa [show b20=false from by simpa using hc21,if_neg Bool.false_ne_true] at this))
   ·
    refine zaq ?_
    refine zaa ?_
    refine gQ (zaf rfl) ?_
    refine zaA 1 tf9 rfl rfl (vs:=[_]) rfl rfl rfl rfl rfl ?_
    refine zag (zae (T':=[(0,_),(1,_),(3,_)]) ⟨rfl,rfl,rfl,trivial⟩ ?_)
    refine zaa ?_
    refine gQ (zaf rfl) ?_
    refine gQ (zaY rfl rfl (by omega) (by omega)) ?_
    refine gQ (zad rfl) ?_
    refine zag (zae (T':=[(0,_),(1,_),(3,_)]) ⟨rfl,rfl,rfl,trivial⟩ ?_)
    exact za1 (n+1,cutB u,x20) ⟨rfl,rfl,rfl,trivial⟩ rfl ⟨by omega,by rw [show(n+1 - 1).toNat=(n - 1).toNat+1 from by omega]; exact(zgY g1 hu).1,by have:=(List.getElem?_eq_some_iff.1 (zgY g1 hu).2).1; omega,by have:=zkN hu; omega,by have:=hp20; rw [show b20=true from by simpa using hc21,if_pos rfl] at this; rwa [show(n+1 - 1).toNat=(n - 1).toNat+1 from by omega]⟩ (by have:=zkN hu; simp only []; omega)
  ·have hu:u.size=0:=ze8.1 (by simpa using hc8)
   refine za8 rfl ?_
   refine zd9 x2 0 (zcN rfl) rfl rfl (.inl (by rw [zhz,←zp3 g1 hu g2]; exact g4))
set_option maxRecDepth 100000 in
set_option maxHeartbeats 1000000 in
theorem zud (t:ByteArray) (w:World)  :
  Calls Tryz.prog 58 #[.string t] w (zcU (fun b:Nat=>.func (.func 85) #[] #[.pointer (some ⟨b,0,none⟩)]) (fun b=>Box b [.string t] 9) w):=by
 refine zan (vs:=[_]) Tryz.func58 rfl rfl (Nat.le_of_ble_eq_true rfl) ?_
 refine zac ?_
 refine zaa ?_
 refine zaG rfl rfl (za3 (vs:=[_]) rfl rfl) fun b1=>?_
 refine gQ (zad rfl) ?_
 refine zag (zae (T':=[(1,_),(2,_)]) ⟨rfl,rfl,trivial⟩ ?_)
 refine zac ?_
 refine zaa ?_
 refine gQ (zbO («as»:=[]) (bs:=[_]) rfl rfl) ?_
 refine gQ (zad rfl) ?_
 refine zag (zae (T':=[(2,_)]) ⟨rfl,trivial⟩ ?_)
 refine zaw ?_
 refine zbd b1 0 (zaC rfl (zau rfl)) ?_ rfl
 rfl
end Go.Proofs.YtdcfcfhmkfkgmaaGreatDoor
namespace Go.Pln
open Go Go.K Go.RowKit Go.Stn Go.Txt
def NZ {α:Type} (r:Except Int α):Prop:=∀ k,r=.error k→k≠0
theorem zgf {α:Type} (x:α):NZ (.ok x:Except Int α):=fun _ h=>by cases h
theorem zcV {α:Type} {k:Int} (h:k≠0):NZ (.error k:Except Int α):=fun _ e=>by cases e; exact h
theorem zbE {α β:Type} {a:Except Int α} {f:α→Except Int β} (h1:NZ a) (h2:∀ x,NZ (f x)):NZ (a >>= f):=by
 cases a with
 | ok x=>rw [zak]; exact h2 x
 | error k=>rw [zcc]; exact zcV (h1 k rfl)
theorem zcO {α:Type} {p:Prop} [Decidable p] {a b:Except Int α} (h1:NZ a) (h2:NZ b):NZ (if p then a else b):=by
 split
 ·exact h1
 ·exact h2
theorem zin:∀ ws:List ByteArray,NZ (zdp ws)
 | []=>zcV (by decide)
 | _ :: _=>zgf _
theorem zqI (u:ByteArray) (ws:List ByteArray):NZ (sayE u ws):=zbE (zin ws) fun _=>zcO (zgf _) (zcV (by decide))
theorem zmn (ws:List ByteArray):NZ (zes ws):=zbE (zin ws) fun _=>zcO (zgf _) (zcV (by decide))
theorem zpm (ws:List ByteArray):NZ (endE ws):=zcO (zgf _) (zcV (by decide))
theorem zv8 (ws:List ByteArray):NZ (numE ws):=zbE (zin ws) fun _=>zcO (zgf _) (zcV (by decide))
theorem zis:∀ (n:Nat) (ws:List ByteArray),NZ (zco n ws)
 | 0,_=>zgf _
 | n+1,ws=>zbE (zv8 ws) fun x=>zbE (zis n x.2) fun _=>zgf _
theorem zp1 (l:List ByteArray) (f:Nat) (ws:List ByteArray):NZ (zfk l f ws):=zbE (zin ws) fun _=>zcO (zcV (by decide)) (zgf _)
theorem zfp (u:ByteArray) (n:Nat) (ws:List ByteArray):NZ (oneE u n ws):=zbE (zqI u ws) fun x=>zis n x.2
theorem zjm:∀ (ws:List ByteArray) (acc:List Int),NZ (zbF acc ws)
 | [],_=>zgf _
 | _ :: r,acc=>by
  rw [zbF]
  exact zcO (zgf _) (zcO (zjm r _) (zcV (by decide)))
theorem zsj (ws:List ByteArray):NZ (zci ws):=by
 unfold zci
 refine zbE (zmn _) fun _=>zbE (zfp _ _ _) fun _=>zbE (zfp _ _ _) fun _=>zbE (zfp _ _ _) fun _=>zbE (zfp _ _ _) fun _=>zbE (zqI _ _) fun _=>zbE (zjm _ _) fun _=>?_
 refine zbE (zfp _ _ _) fun _=>zbE (zfp _ _ _) fun _=>zbE (zfp _ _ _) fun _=>zbE (zfp _ _ _) fun _=>zbE (zfp _ _ _) fun _=>zbE (zqI _ _) fun _=>zbE (zp1 _ _ _) fun _=>zbE (zis _ _) fun _=>?_
 exact zbE (zfp _ _ _) fun _=>zbE (zfp _ _ _) fun _=>zcO (zcV (by decide)) (zgf _)
theorem zqL (q:Plan) (ws:List ByteArray):NZ (zb3 q ws):=
 zbE (zsj ws) fun _=>zbE (zpm _) fun _=>zcO (zcV (by decide)) (zcO (zcO (zcV (by decide)) (zgf _)) (zcV (by decide)))
theorem zst (q:Plan) (ws:List ByteArray):NZ (zb1 q ws):=
 zbE (zmn ws) fun _=>zbE (zmn _) fun _=>zbE (zis _ _) fun _=>zbE (zpm _) fun _=>zcO (zcV (by decide)) (zcO (zcO (zcO (zcV (by decide)) (zgf _)) (zcV (by decide))) (zcV (by decide)))
theorem zrW (q:Plan) (ws:List ByteArray):NZ (zch q ws):=
 zbE (zp1 _ _ ws) fun _=>zbE (zis _ _) fun _=>zbE (zpm _) fun _=>zcO (zcV (by decide)) (zcO (zgf _) (zcV (by decide)))
theorem zuc (q:Plan) (t:ByteArray):NZ (zcu q t):=by
 unfold zcu
 refine zbE (zin _) fun x=>?_
 unfold zff
 exact zcO (zqL _ _) (zcO (zst _ _) (zcO (zrW _ _) (zcV (by decide))))
theorem zrg {q:Plan} {t:ByteArray} (h:¬ zkJ (zcu q t)=0):zcu q t=.error (zkJ (zcu q t)):=by
 cases hl:zcu q t with
 | ok x=>rw [hl] at h; exact absurd rfl h
 | error k=>rfl
theorem ztu {q:Plan} {t:ByteArray} (h:zkJ (zcu q t)=0):∃ q',zcu q t=.ok q':=by
 cases hl:zcu q t with
 | ok x=>exact⟨x,rfl⟩
 | error k=>rw [hl] at h; exact absurd h (zuc q t k hl)
theorem zup:OkQ ⟨[],[]⟩:=⟨fun s h=>(by cases h),Nat.zero_le _,Nat.zero_le _,fun v h=>(by cases h)⟩
theorem zoq {q:Plan} {n:Int} {t:ByteArray} {r:List ByteArray} (h:idle t=true):zdo q n (t :: r)=zdo q (n+1) r:=by rw [zdo,if_pos h]
theorem zqr {q:Plan} {n:Int} {t:ByteArray} {r:List ByteArray} {k:Int} (h:idle t=false) (he:zcu q t=.error k):zdo q n (t :: r)=.error (n,k):=by
 rw [zdo,if_neg (by rw [h]; exact Bool.false_ne_true),he]
theorem zhB {q q':Plan} {n:Int} {t:ByteArray} {r:List ByteArray} (h:idle t=false) (he:zcu q t=.ok q'):zdo q n (t :: r)=zdo q' (n+1) r:=by
 rw [zdo,if_neg (by rw [h]; exact Bool.false_ne_true),he]
theorem zl1 {l:List ByteArray} {i:Nat} {u:ByteArray} (h:l[i]?=some u):l.drop i=u :: l.drop (i+1):=by
 obtain⟨h1,rfl⟩:=List.getElem?_eq_some_iff.1 h
 exact List.drop_eq_getElem_cons h1
def PlR (y:PTy) (z:(Option Addr×Nat×List ShC)×(Option Addr×Nat×List WlC)) (q:Plan):Res where
 A B w:=z.1.2.2.map (·.s)=q.S∧z.2.2.2.map (·.s)=q.V∧(SepR [Row z.1.1 20 z.1.2.1 y.s zbH z.1.2.2,Go.K.Rows (rowH y.i) z.1.2.2,Row z.2.1 4 z.2.2.1 y.w zbS z.2.2.2,Go.K.Rows (rowO y.o) z.2.2.2]).A B w
 loc B w w' h hA:=⟨hA.1,hA.2.1,(SepR [Row z.1.1 20 z.1.2.1 y.s zbH z.1.2.2,Go.K.Rows (rowH y.i) z.1.2.2,Row z.2.1 4 z.2.2.1 y.w zbS z.2.2.2,Go.K.Rows (rowO y.o) z.2.2.2]).loc B w w' h hA.2.2⟩
theorem zxt {y:PTy} {p:Nat} {B:Nat→Prop} {w:World} (hA:(Box p [.slice none 0 0,.slice none 0 0] y.p).A B w):(PlE y p ⟨[],[]⟩).A B w:=
 ⟨none,0,[],none,0,[],rfl,rfl,B,fun _=>False,fun _ h=>h,fun _ h=>h.elim,hA,fun _=>False,fun _=>False,fun _ h=>h,fun _ h=>h.elim,.inl ⟨rfl,rfl,rfl⟩,fun _=>False,fun _=>False,fun _ h=>h,fun _ h=>h.elim,trivial,
  fun _=>False,fun _=>False,fun _ h=>h,fun _ h=>h.elim,.inl ⟨rfl,rfl,rfl⟩,fun _=>False,fun _=>False,fun _ h=>h,fun _ h=>h.elim,trivial,trivial⟩
theorem zpO {c:Cx} {ds:List Deferred} {T:List (Nat×Value)} {H:List Res} {K:Act→World→Prop} (y:PTy) (h:GK c ds K T (PlR y ((none,0,[]),(none,0,[])) ⟨[],[]⟩ :: H)):GK c ds K T H:=fun a w ha hw=>
 h a w ha ⟨hw.base,fun _=>False,fun _ hk=>hk.elim,⟨rfl,rfl,fun _=>False,fun _=>False,fun _ h=>h,fun _ h=>h.elim,.inl ⟨rfl,rfl,rfl⟩,fun _=>False,fun _=>False,fun _ h=>h,fun _ h=>h.elim,trivial,
  fun _=>False,fun _=>False,fun _ h=>h,fun _ h=>h.elim,.inl ⟨rfl,rfl,rfl⟩,fun _=>False,fun _=>False,fun _ h=>h,fun _ h=>h.elim,trivial,trivial⟩,Holds.anti H (fun _ hk=>hk.elim id False.elim) hw.holds⟩
def stR (y:PTy) (p:Nat):Except (Int×Int) Plan→Res
 | .ok q=>PlE y p q
 | .error _=>Box p [.slice none 0 0,.slice none 0 0] y.p
def lnE:Except (Int×Int) Plan→Int
 | .ok _=>0
 | .error x=>x.1
def erE:Except (Int×Int) Plan→Int
 | .ok _=>0
 | .error x=>x.2
theorem zgi {c:UInt8}:∀ {l:List UInt8} {p:List UInt8},p∈cutL c l→p.length≤l.length
 | [],p,h=>by simp [cutL] at h; subst h; simp
 | x :: r,p,h=>by
  rw [cutL] at h
  split at h
  ·rcases List.mem_cons.1 h with rfl | h
   ·simp
   ·have:=zgi h; simp; omega
  ·split at h
   ·simp at h; subst h; simp
   ·rename_i q t e
    rcases List.mem_cons.1 h with rfl | h
    ·have:=zgi (c:=c) (l:=r) (p:=q) (by rw [e]; simp); simp; omega
    ·have:=zgi (c:=c) (l:=r) (p:=p) (by rw [e]; simp [h]); simp; omega
theorem zom {t u:ByteArray} {i:Nat} (h:(zcb t)[i]?=some u):u.size≤t.size:=by
 have h1:=zlh (List.mem_of_getElem? h)
 rw [zcT] at h1
 obtain⟨p,hp,rfl⟩:=List.mem_map.1 h1
 have:=zgi hp
 rw [znt]
 rwa [Array.length_toList] at this
theorem zv2 {u:ByteArray} (h:decide (zee u 0=35)=true):idle u=true:=by
 unfold idle
 rw [Bool.or_eq_true]
 exact .inr (by simpa using h)
theorem zt2 {u:ByteArray} (h1:¬ u.size=0) (h:decide (zee u 0=35)=false):idle u=false:=by
 unfold idle
 simp only [Bool.or_eq_false_iff]
 exact⟨by simpa using h1,by simpa using h⟩
theorem zv1 {u:ByteArray} (h:u.size=0):idle u=true:=by
 unfold idle
 rw [h]; rfl
theorem zjq {t:ByteArray} (h:t.size > 40000):zgA t=(⟨[],[]⟩,0,5):=if_pos h
theorem zkf {t:ByteArray} {q:Plan} (h:¬ t.size > 40000) (he:zdo ⟨[],[]⟩ 1 (zcb t)=.ok q):zgA t=(q,0,0):=by
 unfold zgA
 rw [if_neg h,he]
theorem zlq {t:ByteArray} {x:Int×Int} (h:¬ t.size > 40000) (he:zdo ⟨[],[]⟩ 1 (zcb t)=.error x):zgA t=(⟨[],[]⟩,x.1,x.2):=by
 unfold zgA
 rw [if_neg h,he]
end Go.Pln
namespace Go.Proofs.YtdcfcfhmkfkgmaaGreatDoor
open Go.K Go.Stn Go.Pln Go.RowKit
theorem en58:En Tryz.prog 58:=za7 Tryz.func58 (by kernel_rfl) (by kernel_rfl)
theorem en59:En Tryz.prog 59:=za7 Tryz.func59 (by kernel_rfl) (by kernel_rfl)
theorem en85:En Tryz.prog 85:=za7 Tryz.func85 (by kernel_rfl) (by kernel_rfl)
theorem zu9  (w:World):(Instr.build 31 #[]).run Tryz.prog w=.ok (.agg #[.slice none 0 0,.slice none 0 0]) w:=by kernel_rfl
theorem zny:∀ (k:Int) (l:List ByteArray),∀ a∈numV k l,a.length=2
 | _,[],_,h=>by cases h
 | k,t :: r,a,h=>by
  rw [numV] at h
  rcases List.mem_cons.1 h with rfl | h'
  ·rfl
  ·exact zny (k+1) r a h'
theorem zj3 {u:ByteArray} (h:(!(u.toList == (⟨#[]⟩:ByteArray).toList))=true):0 < (u.size:Int):=by
 have:¬ u.size=0:=fun e=>by rw [ze8.2 e] at h; exact Bool.noConfusion h
 omega
theorem zt3 {u:ByteArray} (h:(u.toList == (⟨#[]⟩:ByteArray).toList||decide (zee u 0=35))=true):idle u=true:=by
 rw [Bool.or_eq_true] at h
 rcases h with h' | h'
 ·exact zv1 (ze8.1 h')
 ·exact zv2 h'
theorem zrz {u:ByteArray} (h:(u.toList == (⟨#[]⟩:ByteArray).toList||decide (zee u 0=35))=false):idle u=false:=by
 obtain⟨h1,h2⟩:=(Bool.or_eq_false_iff).1 h
 exact zt2 (fun e=>by rw [ze8.2 e] at h1; cases h1) h2
theorem zrN {l:List ByteArray} {k:Int} {i:Nat} {a:List Value} (h:(numV k l)[i]?=some a):∃ u,l[i]?=some u∧a=[.int .i64 (k+i),.string u]:=by
 have hi:i < l.length:=by
  have:=(List.getElem?_eq_some_iff.1 h).1
  rwa [zhz] at this
 refine⟨l[i],List.getElem?_eq_getElem hi,?_⟩
 have:=zkc (k:=k) (List.getElem?_eq_getElem hi)
 rw [this] at h
 cases h; rfl
set_option maxRecDepth 100000 in
set_option maxHeartbeats 4000000 in
theorem zus (t:ByteArray) (w:World) (hmx:Has w (IntV 2)) (hcp:Has w (zaW (some ⟨0,0,none⟩) 1 encS copesW)) (hop:Has w (zaW (some ⟨1,0,none⟩) 1 encS opensW)) :
  Calls Tryz.prog 24 #[.string t] w (zcU (fun z:(Option Addr×Nat×List ShC)×(Option Addr×Nat×List WlC)=>.tuple #[.agg #[.slice z.1.1 z.1.2.2.length z.1.2.1,.slice z.2.1 z.2.2.2.length z.2.2.1],.int .i64 (zgA t).2.1,.int .i64 (zgA t).2.2]) (fun z=>PlR yP z (zgA t).1) w):=by
 refine zan (vs:=[_]) Tryz.func24 rfl rfl (Nat.le_of_ble_eq_true rfl) ?_
 refine zac ?_
 refine zaa ?_
 refine zaG rfl rfl (zaL tf31 (zs:=[_,_]) rfl) fun b2=>?_
 refine zaG rfl rfl (zaL tf3 (zs:=[_]) rfl) fun b3=>?_
 refine zaG rfl rfl (zaL tf33 (zs:=[_]) rfl) fun b4=>?_
 refine zag (zae (T':=[(0,_),(2,_),(3,_),(4,_)]) ⟨rfl,rfl,rfl,rfl,trivial⟩ ?_)
 refine zac ?_
 refine zac ?_
 refine zaa ?_
 refine gQ (zaf rfl) ?_
 refine gQ (zeO (Tryz.underlying9) rfl) ?_
 refine gQ (zc6 rfl rfl) ?_
 refine zag (zae (T':=[(0,_),(2,_),(3,_),(4,_),(10,_)]) ⟨rfl,rfl,rfl,rfl,rfl,trivial⟩ ?_)
 refine zap rfl (fun hc10=>?_) (fun hc10=>?_)
 ·
  refine zac ?_
  refine zaa ?_
  refine gQ (zaI (parts:=[]) rfl zu9) ?_
  refine zaA 2 tf31 rfl rfl (vs:=[_,_]) rfl rfl rfl rfl rfl ?_
  refine zaA 1 tf3 rfl rfl (vs:=[_]) rfl rfl rfl rfl rfl ?_
  refine zaA 0 tf33 rfl rfl (vs:=[_]) rfl rfl rfl rfl rfl ?_
  refine zag (zae (T':=[(0,_),(2,_),(3,_),(4,_)]) ⟨rfl,rfl,rfl,rfl,trivial⟩ ?_)
  refine zpO yP ?_
  refine zaw ?_
  refine zbd ((none,0,[]),(none,0,[])) 0 (zdh rfl (zbU (i:=3) (vs:=[_,_]) tf31 rfl rfl rfl rfl) (zcy (i:=2) tf3 rfl rfl rfl) (zcy (i:=1) tf33 rfl rfl rfl)) (by rw [zjq (by have:=of_decide_eq_true hc10; omega)] <;> rfl) (by rw [zjq (by have:=of_decide_eq_true hc10; omega)] <;> rfl)
 ·have hlong:¬ t.size > 40000:=by have:=of_decide_eq_false hc10; omega
  refine zaq ?_
  refine zac ?_
  refine zac ?_
  refine zaa ?_
  refine gQ (zaf rfl) ?_
  refine zaG rfl rfl (zbm en58 rfl (fun w hw=>zud _ w)) fun b13=>?_
  refine zag (zae (T':=[(2,_),(3,_),(4,_),(13,_)]) ⟨rfl,rfl,rfl,rfl,trivial⟩ ?_)
  refine zao 3 rfl ?_
  refine za2 (R':=stR yP b2 (.ok ⟨[],[]⟩)) 0 rfl (fun B w hA=>zxt hA) ?_
  refine zao 2 rfl ?_
  refine zao 3 rfl ?_
  refine zao 2 rfl ?_
  refine zao 3 rfl ?_
  refine zas ?_
  refine zae (T':=[(2,_),(3,_),(4,_),(13,_)]) ⟨rfl,rfl,rfl,rfl,trivial⟩ ?_
  refine zj0 (X:=Except (Int×Int) Plan) (fun x=>[stR yP b2 x,Box b3 [.int .i64 (lnE x)] 3,Box b4 [.int .i64 (erE x)] 33]) (fun n x=>∃ q,x=.ok q∧OkQ q∧zdo ⟨[],[]⟩ 1 (zcb t)=zdo q (1+(n:Int)) ((zcb t).drop n)) (fun x=>x=zdo ⟨[],[]⟩ 1 (zcb t)∧∃ y,x=.error y) [] (.ok ⟨[],[]⟩) rfl en85 rfl rfl ⟨_,rfl,zup,by simp⟩ (zrG t b13 (by omega)) (Has.rd hmx) (zny _ _) rfl ?_ ?_ ?_ ?_
  ·rintro R1 R2 rl U' w' n x args hget hR hrd hins hbeg
   obtain⟨u,hs,rfl⟩:=zrN hget
   obtain⟨q,rfl,hq,hle⟩:=hR
   refine zae (T':=[(2,_),(3,_),(4,_),(14,_),(15,_)]) ⟨rfl,rfl,rfl,rfl,rfl,trivial⟩ ?_
   refine zac ?_
   refine zaa ?_
   refine gQ (zad rfl) ?_
   refine zag (zae (T':=[(2,_),(3,_),(4,_),(5,_),(15,_)]) ⟨rfl,rfl,rfl,rfl,rfl,trivial⟩ ?_)
   refine zaa ?_
   refine gQ (zad rfl) ?_
   refine zag (zae (T':=[(2,_),(3,_),(4,_),(5,_),(6,_)]) ⟨rfl,rfl,rfl,rfl,rfl,trivial⟩ ?_)
   refine za2 (R':=PlP b2 q) 1 rfl (fun B w hA=>hA) ?_
   refine za2 (R':=Box b3 [.int .i64 0] 3) 2 rfl (fun B w hA=>hA) ?_
   refine za2 (R':=Box b4 [.int .i64 0] 33) 3 rfl (fun B w hA=>hA) ?_
   refine hbeg _ _ _ ?_
   refine zas ?_
   refine zac ?_
   refine zac ?_
   refine zbb 7 (fun _=>mixed) (by kernel_rfl) ?_
   refine ph_y (zaf rfl) ?_
   refine ph_y (zge rfl rfl) ?_
   refine ph_y (zaf rfl) ?_
   refine zaz rfl rfl (fun hgd=>by(try rw [hgd]); (try have hgd2:=zj3 hgd); exact(zaf rfl)) ?_
   refine zaz rfl rfl (fun hgd=>by(try rw [hgd]); (try have hgd2:=zj3 hgd); exact(zdM (Tryz.underlying9) rfl rfl (by omega) (by omega))) ?_
   refine zaz rfl rfl (fun hgd=>by(try rw [hgd]); (try have hgd2:=zj3 hgd); exact(zbL rfl rfl)) ?_
   refine ph_y (zaR rfl rfl rfl) ?_
   refine zag (zae (T':=[(2,_),(3,_),(4,_),(5,_),(6,_),(22,_)]) ⟨rfl,rfl,rfl,rfl,rfl,rfl,trivial⟩ ?_)
   refine zap rfl (fun hc22=>?_) (fun hc22=>?_)
   ·have hid:=zt3 hc22
    refine za8 rfl ?_
    exact zb9 (.ok q) trivial rfl ⟨_,rfl,hq,by rw [hle,zl1 hs,zoq hid,(show 1+(n:Int)+1=1+((n+1:Nat):Int) from by omega)]⟩
   ·have hid:=zrz hc22
    refine zaq ?_
    refine zac ?_
    refine zaa ?_
    refine gQ (zaf rfl) ?_
    refine zjY 1 en59 rfl rfl rfl (fun w B hF=>zv6 b2 q u w B (fun k hk=>(hF.own k hk).2) hF.A hq (by have:=zom hs; omega) (hF.rd (hrd _ (Has.rd hmx))) (hF.rd (hrd _ (Has.rd hcp))) (hF.rd (hrd _ (Has.rd hop)))) fun z24 hq24=>?_
    refine gQ (zad rfl) ?_
    refine zag (zae (T':=[(2,_),(3,_),(4,_),(5,_),(7,_)]) ⟨rfl,rfl,rfl,rfl,rfl,trivial⟩ ?_)
    refine zac ?_
    refine zaa ?_
    refine gQ (zaf rfl) ?_
    refine gQ (zcr rfl rfl) ?_
    refine zag (zae (T':=[(2,_),(3,_),(4,_),(5,_),(7,_),(26,_)]) ⟨rfl,rfl,rfl,rfl,rfl,rfl,trivial⟩ ?_)
    refine zap rfl (fun hc26=>?_) (fun hc26=>?_)
    ·have hk:=zrg (q:=q) (t:=u) (by simpa using hc26)
     refine za2 (R':=plAt yP b2) 1 rfl (fun B w hA=>by rw [hk] at hA; exact hA) ?_
     refine zao 1 rfl ?_
     refine zpP fun pa pn pm pb pe pd=>?_
     refine zac ?_
     refine zaa ?_
     refine gQ (zaI (parts:=[]) rfl zu9) ?_
     refine gQ (zaf rfl) ?_
     refine gQ (zaf rfl) ?_
     refine zaA 0 tf31 rfl rfl (vs:=[_,_]) rfl rfl rfl rfl rfl ?_
     refine zaA 2 tf3 rfl rfl (vs:=[_]) rfl rfl rfl rfl rfl ?_
     refine zaA 3 tf33 rfl rfl (vs:=[_]) rfl rfl rfl rfl rfl ?_
     refine zag (zae (T':=[(2,_),(3,_),(4,_)]) ⟨rfl,rfl,rfl,trivial⟩ ?_)
     refine za2 (R':=stR yP b2 (.error (1+(n:Int),zkJ (zcu q u)))) 0 rfl (fun B w hA=>hA) ?_
     refine zao 3 rfl ?_
     refine zao 3 rfl ?_
     refine zao 2 rfl ?_
     refine zao 3 rfl ?_
     refine zaw ?_
     exact zb9 (.error (1+(n:Int),zkJ (zcu q u))) trivial rfl ⟨by rw [hle,zl1 hs,zqr hid hk],_,rfl⟩
    ·obtain⟨q',hq'⟩:=ztu (q:=q) (t:=u) (by simpa using hc26)
     refine za2 (R':=PlP b2 q') 1 rfl (fun B w hA=>by rw [hq'] at hA; exact hA) ?_
     refine zaq ?_
     exact zb9 (.ok q') trivial rfl ⟨_,rfl,zrS hq hq',by rw [hle,zl1 hs,zhB hid hq',(show 1+(n:Int)+1=1+((n+1:Nat):Int) from by omega)]⟩
  ·intro Dm x hR
   obtain⟨q,rfl,hq,hle⟩:=hR
   have hfin:zdo ⟨[],[]⟩ 1 (zcb t)=.ok q:=by rw [hle,zhz,List.drop_of_length_le (Nat.le_refl _)]; rfl
   refine za2 (R':=PlP b2 q) 1 rfl (fun B w hA=>hA) ?_
   refine za2 (R':=Box b3 [.int .i64 0] 3) 2 rfl (fun B w hA=>hA) ?_
   refine za2 (R':=Box b4 [.int .i64 0] 33) 3 rfl (fun B w hA=>hA) ?_
   refine zao 1 rfl ?_
   refine zgq fun sa sc S wa wc V hS hV=>?_
   refine zac ?_
   refine zaa ?_
   refine gQ (zat 0 tf31 rfl rfl (vs:=[_,_]) rfl rfl) ?_
   refine zaA 0 tf31 rfl rfl (vs:=[_,_]) rfl rfl rfl rfl rfl ?_
   refine zaA 6 tf3 rfl rfl (vs:=[_]) rfl rfl rfl rfl rfl ?_
   refine zaA 7 tf33 rfl rfl (vs:=[_]) rfl rfl rfl rfl rfl ?_
   refine zag (zae (T':=[(2,_),(3,_),(4,_)]) ⟨rfl,rfl,rfl,trivial⟩ ?_)
   refine zao 4 rfl ?_
   refine zao 4 rfl ?_
   refine zao 4 rfl ?_
   refine zao 4 rfl ?_
   refine zbT 4 ?_
   refine za2 (R':=PlR yP ((sa,sc,S),(wa,wc,V)) q) 0 rfl (fun B w hA=>⟨hS,hV,hA⟩) ?_
   refine zaw ?_
   refine zil 2 rfl ?_
   refine zbd ((sa,sc,S),(wa,wc,V)) 0 (zdh rfl (zbU (i:=1) (vs:=[_,_]) tf31 rfl rfl rfl rfl) (zcy (i:=2) tf3 rfl rfl rfl) (zcy (i:=3) tf33 rfl rfl rfl)) (by rw [zkf hlong hfin] <;> rfl) (by rw [zkf hlong hfin] <;> rfl)
  ·rintro Dm x hD
   obtain⟨hfin,y,rfl⟩:=hD
   have hfin:=hfin.symm
   refine za2 (R':=Box b2 [.slice none 0 0,.slice none 0 0] 31) 1 rfl (fun B w hA=>hA) ?_
   refine za2 (R':=Box b3 [.int .i64 y.1] 3) 2 rfl (fun B w hA=>hA) ?_
   refine za2 (R':=Box b4 [.int .i64 y.2] 33) 3 rfl (fun B w hA=>hA) ?_
   refine zpO yP ?_
   refine zil 1 rfl ?_
   refine zbd ((none,0,[]),(none,0,[])) 0 (zdh rfl (zbU (i:=1) (vs:=[_,_]) tf31 rfl rfl rfl rfl) (zcy (i:=2) tf3 rfl rfl rfl) (zcy (i:=3) tf33 rfl rfl rfl)) (by rw [zlq hlong hfin] <;> rfl) (by rw [zlq hlong hfin] <;> rfl)
  ·exact fun _ _ _ _ h=>absurd h (by simp)
end Go.Proofs.YtdcfcfhmkfkgmaaGreatDoor
namespace Go.Pln
open Go Go.K Go.RowKit Go.Stn Go.Txt
theorem zzk (s:ByteArray):s.data.toList.length=s.size:=by rw [Array.length_toList]; rfl
theorem zy9 (s:ByteArray) (i:Int):zee s i=((s.data.toList[i.toNat]?.getD 0).toNat:Int):=by
 unfold zee
 by_cases h:i.toNat < s.size
 ·rw [getElem?_pos s i.toNat h]
  have h2:i.toNat < s.data.toList.length:=by rw [zzk]; exact h
  rw [List.getElem?_eq_getElem h2]
  rfl
 ·rw [getElem?_neg s i.toNat h,List.getElem?_eq_none (by rw [zzk]; omega)]
theorem zzd (s:ByteArray) (i j:Nat):(s.extract i j).data.toList=(s.data.toList.drop i).take (j - i):=by
 rw [ByteArray.data_extract,Array.toList_extract,List.extract_eq_take_drop]
def CutI (s:ByteArray) (c:UInt8) (M:List ByteArray) (f i:Int):Prop:=
 0≤f∧f≤i∧i≤(s.size:Int)∧(M.length:Int)≤f∧(∀ j:Nat,f≤(j:Int)→(j:Int) < i→zee s j≠(c.toNat:Int))∧M.map (·.data.toList)++cutL c (s.data.toList.drop f.toNat)=cutL c s.data.toList
theorem zz9 {s:ByteArray} {c:UInt8}:CutI s c [] 0 0:=⟨by omega,by omega,by omega,by simp,fun j h1 h2=>by omega,by simp⟩
theorem zzu {s:ByteArray} {c:UInt8} {f i:Int} (h0:0≤f) (h:∀ j:Nat,f≤(j:Int)→(j:Int) < i→zee s j≠(c.toNat:Int)):∀ x∈(s.data.toList.drop f.toNat).take (i.toNat - f.toNat),x≠c:=fun x hx e=>by
 obtain⟨k,hk,rfl⟩:=List.mem_take_iff_getElem.1 hx
 rw [List.getElem_drop] at e
 refine h (f.toNat+k) (by omega) (by omega) ?_
 rw [zy9,show((f.toNat+k:Nat):Int).toNat=f.toNat+k from Int.toNat_natCast _,List.getElem?_eq_getElem (by rw [List.length_drop] at hk; omega),e]; rfl
theorem zAH {s:ByteArray} {c:UInt8} {M:List ByteArray} {f i:Int} (h:CutI s c M f i) (hi:i < (s.size:Int)) (hb:zee s i=(c.toNat:Int)):CutI s c (M++[s.extract f.toNat i.toNat]) (i+1) (i+1):=by
 obtain⟨h0,h1,h2,h3,h4,h5⟩:=h
 refine⟨by omega,by omega,by omega,by simp; omega,fun j a b=>by omega,?_⟩
 rw [←h5,List.map_append,List.map_cons,List.map_nil,zzd,List.append_assoc]
 congr 1
 have hlt:i.toNat < s.data.toList.length:=by rw [zzk]; omega
 have hc:s.data.toList[i.toNat]=c:=by
  rw [zy9,List.getElem?_eq_getElem hlt] at hb
  have hb2:(s.data.toList[i.toNat].toNat:Int)=c.toNat:=hb
  exact UInt8.toNat_inj.1 (by omega)
 have hs:s.data.toList.drop f.toNat=(s.data.toList.drop f.toNat).take (i.toNat - f.toNat)++c :: s.data.toList.drop (i+1).toNat:=by
  have e1:(s.data.toList.drop f.toNat).drop (i.toNat - f.toNat)=c :: s.data.toList.drop (i+1).toNat:=by
   rw [List.drop_drop,show f.toNat+(i.toNat - f.toNat)=i.toNat from by omega,List.drop_eq_getElem_cons hlt,hc,show(i+1).toNat=i.toNat+1 from by omega]
  rw [←e1,List.take_append_drop]
 conv=>rhs; rw [hs]
 rw [zhx (zzu h0 h4)]; rfl
theorem zAn {s:ByteArray} {c:UInt8} {M:List ByteArray} {f i:Int} (h:CutI s c M f i) (hi:i < (s.size:Int)) (hb:¬ zee s i=(c.toNat:Int)):CutI s c M f (i+1):=by
 obtain⟨h0,h1,h2,h3,h4,h5⟩:=h
 refine⟨h0,by omega,by omega,h3,fun j a b=>?_,h5⟩
 by_cases hj:(j:Int) < i
 ·exact h4 j a hj
 ·rw [show(j:Int)=i from by omega]; exact hb
theorem zz0 {s:ByteArray} {c:UInt8} {M:List ByteArray} {f i:Int} (h:CutI s c M f i) (hi:¬ i < (s.size:Int)):M++[s.extract f.toNat s.size]=zcn s c:=by
 obtain⟨h0,h1,h2,h3,h4,h5⟩:=h
 have hc:=zzu h0 h4
 have hsz:=zzk s
 rw [List.take_of_length_le (by rw [List.length_drop]; omega)] at hc
 rw [zcT,←h5,zeD hc,List.map_append,List.map_map]
 have e1:M.map (mkB ∘ fun x=>x.data.toList)=M:=by
  conv=>rhs; rw [←List.map_id M]
  exact List.map_congr_left fun x _=>zns x
 rw [e1]
 congr 1
 show [s.extract f.toNat s.size]=[mkB (s.data.toList.drop f.toNat)]
 rw [←zns (s.extract f.toNat s.size),zzd,List.take_of_length_le (by rw [List.length_drop]; omega)]
def NumI (s:ByteArray) (k i:Int):Prop:=0≤i∧i≤(s.size:Int)∧i≤6∧(∀ c∈s.data.toList.take i.toNat,ziZ c)∧k=(zfQ 0 (s.data.toList.take i.toNat):Int)
theorem zAe {s:ByteArray}:NumI s 0 0:=⟨by omega,by omega,by omega,by simp,by simp [zfQ]⟩
theorem zAI (a:Nat) (l:List UInt8) (c:UInt8):zfQ a (l++[c])=zfQ a l*10+(c.toNat - 48):=by
 unfold zfQ
 rw [List.foldl_append]; rfl
theorem zAu {s:ByteArray} {k i:Int} (h:NumI s k i) (hi:i < (s.size:Int)) (h6:i < 6) (h1:48≤zee s i) (h2:zee s i≤57):NumI s (10*k+(zee s i - 48)) (i+1):=by
 obtain⟨g0,g1,g2,g3,g4⟩:=h
 have hlt:i.toNat < s.data.toList.length:=by rw [zzk]; omega
 have ht:s.data.toList.take (i+1).toNat=s.data.toList.take i.toNat++[s.data.toList[i.toNat]]:=by
  rw [show(i+1).toNat=i.toNat+1 from by omega,List.take_add_one,List.getElem?_eq_getElem hlt]; rfl
 rw [zy9,List.getElem?_eq_getElem hlt] at h1 h2 ⊢
 have e:(some s.data.toList[i.toNat]).getD 0=s.data.toList[i.toNat]:=rfl
 rw [e] at h1 h2 ⊢
 refine⟨by omega,by omega,by omega,fun c hc=>?_,?_⟩
 ·rw [ht] at hc
  rcases List.mem_append.1 hc with h' | h'
  ·exact g3 c h'
  ·rw [List.mem_singleton] at h'; rw [h']; exact⟨by omega,by omega⟩
 ·rw [ht,zAI,g4]; omega
theorem zA3 {s:ByteArray} {i:Int} (h0:0≤i) (hi:i < (s.size:Int)) (h:zee s i < 48∨57 < zee s i):numW s=false:=by
 rw [Bool.eq_false_iff]
 intro hn
 have hd:=((zrO s).1 hn).2.2.1
 have hlt:i.toNat < s.data.toList.length:=by rw [zzk]; omega
 have:=hd _ (List.getElem_mem hlt)
 rw [zy9,List.getElem?_eq_getElem hlt] at h
 unfold ziZ at this
 have e:(some s.data.toList[i.toNat]).getD 0=s.data.toList[i.toNat]:=rfl
 rw [e] at h
 omega
theorem zAs {s:ByteArray} {i:Int} (h6:6≤i) (hi:i < (s.size:Int)):numW s=false:=by
 rw [Bool.eq_false_iff]
 intro hn
 have:=((zrO s).1 hn).2.1
 rw [zzk] at this
 omega
theorem zz1 {s:ByteArray} {k i:Int} (h:NumI s k i) (hi:¬ i < (s.size:Int)):(numW s=true→k=zdO s)∧(∀ c∈s.data.toList,ziZ c)∧s.size≤6:=by
 obtain⟨g0,g1,g2,g3,g4⟩:=h
 have ht:s.data.toList.take i.toNat=s.data.toList:=List.take_of_length_le (by rw [zzk]; omega)
 rw [ht] at g3 g4
 exact⟨fun hn=>by rw [g4,(zoV hn).2],g3,by omega⟩
theorem zAU:∀ (l:List UInt8) (a:Nat),(∀ c∈l,ziZ c)→zfQ a l < (a+1)*10 ^ l.length
 | [],a,_=>by simp [zfQ]
 | c :: r,a,hd=>by
  have hc:=hd c (by simp)
  unfold ziZ at hc
  rw [zhX,List.length_cons,Nat.pow_succ,Nat.mul_comm (10 ^ r.length) 10,←Nat.mul_assoc]
  exact Nat.lt_of_lt_of_le (zAU r _ (fun x hx=>hd x (by simp [hx]))) (Nat.mul_le_mul_right _ (by omega))
theorem zA2 {s:ByteArray} {k i:Int} (h:NumI s k i):0≤k∧k < 1000000:=by
 obtain⟨g0,g1,g2,g3,g4⟩:=h
 have h1:=zAU _ 0 g3
 rw [Nat.zero_add,Nat.one_mul] at h1
 have h2:10 ^ (s.data.toList.take i.toNat).length≤10 ^ 6:=Nat.pow_le_pow_right (by decide) (by rw [List.length_take]; omega)
 have h3:(10:Nat) ^ 6=1000000:=rfl
 omega
def zyZ (s:ByteArray):Int:=if s.data.toList.all (fun c=>decide (ziZ c))=true∧s.size≤6 then(zfQ 0 s.data.toList:Int) else 0
theorem zAP {s:ByteArray} {i:Int} (h0:0≤i) (hi:i < (s.size:Int)) (h:zee s i < 48∨57 < zee s i):zyZ s=0:=by
 unfold zyZ
 rw [if_neg]
 rintro ⟨h1,_⟩
 rw [List.all_eq_true] at h1
 have hlt:i.toNat < s.data.toList.length:=by rw [zzk]; omega
 have:=of_decide_eq_true (h1 _ (List.getElem_mem hlt))
 rw [zy9,List.getElem?_eq_getElem hlt] at h
 unfold ziZ at this
 have e:(some s.data.toList[i.toNat]).getD 0=s.data.toList[i.toNat]:=rfl
 rw [e] at h
 omega
theorem zAh {s:ByteArray} {i:Int} (h6:6≤i) (hi:i < (s.size:Int)):zyZ s=0:=by
 unfold zyZ
 rw [if_neg]
 rintro ⟨_,h1⟩
 omega
theorem zAB {s:ByteArray} {k i:Int} (h:NumI s k i) (hi:¬ i < (s.size:Int)):zyZ s=k:=by
 obtain⟨h1,h2,h3⟩:=zz1 h hi
 obtain⟨g0,g1,g2,g3,g4⟩:=h
 unfold zyZ
 rw [if_pos ⟨by rw [List.all_eq_true]; exact fun c hc=>decide_eq_true (h2 c hc),h3⟩,g4,List.take_of_length_le (by rw [zzk]; omega)]
theorem zzo {s:ByteArray} (h:numW s=true):zyZ s=zdO s:=by
 have hd:=(zrO s).1 h
 unfold zyZ
 rw [if_pos ⟨by rw [List.all_eq_true]; exact fun c hc=>decide_eq_true (hd.2.2.1 c hc),by have:=hd.2.1; rw [zzk] at this; exact this⟩,(zoV h).2]
theorem zAL {s:ByteArray} {k i:Int} (h:NumI s k i) (hi:¬ i < (s.size:Int)):numW s=((!(s.toList == (⟨#[]⟩:ByteArray).toList))&&((!decide (zee s 0=48))||decide ((s.size:Int)=1))):=by
 obtain⟨_,h2,h3⟩:=zz1 h hi
 rw [Bool.eq_iff_iff,zrO,Lib.toList_data,Lib.toList_data,zy9]
 have hs:=zzk s
 unfold digW
 generalize s.data.toList=l at *
 cases l with
 | nil=>simp
 | cons c r=>
  have hne:((c :: r:List UInt8) == (⟨#[]⟩:ByteArray).data.toList)=false:=by rfl
  have e:((c :: r)[(0:Int).toNat]?.getD 0).toNat=c.toNat:=rfl
  rw [hne,e]
  simp only [Bool.not_false,Bool.true_and,Bool.or_eq_true,Bool.not_eq_true',decide_eq_false_iff_not,decide_eq_true_eq,List.length_cons] at *
  constructor
  ·rintro ⟨_,_,_,g | ⟨c',r',g1,g2⟩⟩
   ·right
    rw [List.cons.injEq] at g
    rw [g.2] at hs; simp at hs; omega
   ·left
    rw [List.cons.injEq] at g1
    rw [←g1.1] at g2
    exact fun e=>g2 (UInt8.toNat_inj.1 (by have h48:(48:UInt8).toNat=48:=rfl; omega))
  ·intro g
   refine⟨by omega,by omega,h2,?_⟩
   rcases g with g | g
   ·right
    exact⟨c,r,rfl,fun e=>g (by rw [e]; rfl)⟩
   ·by_cases hc:c=48
    ·left
     have:r.length=0:=by omega
     rw [hc,List.eq_nil_of_length_eq_zero this]
    ·exact .inr ⟨c,r,rfl,hc⟩
end Go.Pln
namespace Go.Proofs.YtdcfcfhmkfkgmaaGreatDoor
open Go.K Go.Stn Go.Pln Go.RowKit
theorem zBl:AF Tryz.prog 124 9 1 16 [.string ⟨#[]⟩]:=⟨Tryz.underlying124,by kernel_rfl,rfl⟩
theorem zAm (x0_0:ByteArray) (w:World):(Instr.buildSlice 124 1 #[(0,.string x0_0)]).run Tryz.prog w=.ok (.slice (some ⟨w.heap.size,0,none⟩) 1 1) (w.alloc (.cells (([x0_0]:List (ByteArray)).flatMap encS).toArray 9)):=by kernel_rfl
set_option maxRecDepth 100000 in
set_option maxHeartbeats 1000000 in
theorem zAx (s:ByteArray) (c:UInt8) (w:World) (hsz:s.size≤1000000) :
  Calls Tryz.prog 60 #[.string s,.int .u8 (c.toNat:Int)] w (zcU (fun z:Option Addr×Nat=>.slice z.1 (zcn s c).length z.2) (fun z=>Row z.1 1 z.2 9 encS (zcn s c)) w):=by
 refine zan (vs:=[_,_]) Tryz.func60 rfl rfl (Nat.le_of_ble_eq_true rfl) ?_
 refine zac ?_
 refine zaa ?_
 refine gQ (zad rfl) ?_
 refine zag (zae (T':=[(0,_),(1,_),(4,_)]) ⟨rfl,rfl,rfl,trivial⟩ ?_)
 refine zac ?_
 refine zaa ?_
 refine gQ (zad rfl) ?_
 refine zag (zae (T':=[(0,_),(1,_),(4,_),(5,_)]) ⟨rfl,rfl,rfl,rfl,trivial⟩ ?_)
 refine zac ?_
 refine zaa ?_
 refine gQ (zad rfl) ?_
 refine zag (zae (T':=[(0,_),(1,_),(4,_),(5,_),(6,_)]) ⟨rfl,rfl,rfl,rfl,rfl,trivial⟩ ?_)
 refine zac ?_
 refine zac ?_
 refine zaa ?_
 refine gQ (zad rfl) ?_
 refine zag (zae (T':=[(0,_),(1,_),(4,_),(5,_),(6,_),(7,_)]) ⟨rfl,rfl,rfl,rfl,rfl,rfl,trivial⟩ ?_)
 refine zas ?_
 refine zbB 9 encS 1 ?_
 refine zbf (X:=Int×Int×Option Addr×Nat×List ByteArray) (fun⟨i,f,b,bc,M⟩=>[(0,.string s),(1,.int .u8 (c.toNat:Int)),(4,.slice none 0 0),(5,.slice b M.length bc),(6,.int .i64 f),(7,.int .i64 i)]) (fun⟨i,f,b,bc,M⟩=>[Row b 1 bc 9 encS M]) (fun⟨i,f,b,bc,M⟩=>(CutI s c M f i)) (fun⟨i,f,b,bc,M⟩=>(s.size - i).toNat) (0,0,none,0,[]) ⟨rfl,rfl,rfl,rfl,rfl,rfl,trivial⟩ rfl ?_ ?_
 ·exact zz9
 ·rintro ⟨i,f,b,bc,M⟩ hI
  have hCI:CutI s c M f i:=hI
  obtain⟨g0,g1,g2,g3,g4,g5⟩:=hI
  refine zac ?_
  refine zac ?_
  refine zaa ?_
  refine gQ (zaf rfl) ?_
  refine gQ (zaf rfl) ?_
  refine gQ (zeO (Tryz.underlying9) rfl) ?_
  refine gQ (zbw rfl rfl) ?_
  refine zag (zae (T':=[(0,_),(1,_),(4,_),(5,_),(6,_),(7,_),(11,_)]) ⟨rfl,rfl,rfl,rfl,rfl,rfl,rfl,trivial⟩ ?_)
  refine zap rfl (fun hc11=>?_) (fun hc11=>?_)
  ·have hc11:=of_decide_eq_true hc11
   refine zaq ?_
   refine zac ?_
   refine zas ?_
   refine zac ?_
   refine zaa ?_
   refine gQ (zaf rfl) ?_
   refine gQ (zaf rfl) ?_
   refine gQ (zdM (Tryz.underlying9) rfl rfl (by omega) (by omega)) ?_
   refine gQ (zaf rfl) ?_
   refine gQ (zbL rfl rfl) ?_
   refine zag (zae (T':=[(0,_),(1,_),(4,_),(5,_),(6,_),(7,_),(18,_)]) ⟨rfl,rfl,rfl,rfl,rfl,rfl,rfl,trivial⟩ ?_)
   refine zap rfl (fun hc18=>?_) (fun hc18=>?_)
   ·
    refine zac ?_
    refine zaa ?_
    refine gQ (zaf rfl) ?_
    refine gQ (zaf rfl) ?_
    refine gQ (zaf rfl) ?_
    refine gQ (zaf rfl) ?_
    refine gQ (zzS (Tryz.underlying9) rfl rfl rfl (by omega) (by omega) (by omega)) ?_
    refine zaG rfl rfl (zaD rfl (zAm _) ztJ rfl) fun b24=>?_
    refine zb4 (m:=[(s.extract f.toNat i.toNat)]) 1 zBl ztJ rfl rfl rfl rfl (fun _ hw=>(zam ztJ (hw.has (p:=0) rfl))) (by first | omega | (simp only [List.length_cons,List.length_nil]; omega)) (by first | (unfold maxLen; omega) | (simp only [List.length_cons,List.length_nil,maxLen]; omega)) fun a25 c25=>?_
    refine gQ (zad rfl) ?_
    refine zag (zae (T':=[(0,_),(1,_),(4,_),(5,_),(6,_),(7,_)]) ⟨rfl,rfl,rfl,rfl,rfl,rfl,trivial⟩ ?_)
    refine zaa ?_
    refine gQ (zaf rfl) ?_
    refine gQ (zaY rfl rfl (by omega) (by omega)) ?_
    refine gQ (zad rfl) ?_
    refine zag (zae (T':=[(0,_),(1,_),(4,_),(5,_),(6,_),(7,_)]) ⟨rfl,rfl,rfl,rfl,rfl,rfl,trivial⟩ ?_)
    refine zaa ?_
    refine gQ (zaf rfl) ?_
    refine gQ (zaY rfl rfl (by omega) (by omega)) ?_
    refine gQ (zad rfl) ?_
    refine zag (zae (T':=[(0,_),(1,_),(4,_),(5,_),(6,_),(7,_)]) ⟨rfl,rfl,rfl,rfl,rfl,rfl,trivial⟩ ?_)
    refine zaK 0 rfl ?_
    exact za1 (i+1,i+1,a25,c25,M++[s.extract f.toNat i.toNat]) ⟨rfl,rfl,rfl,rfl,rfl,rfl,trivial⟩ rfl (zAH hCI hc11 (of_decide_eq_true hc18)) (by simp only []; omega)
   ·
    refine zaq ?_
    refine zaa ?_
    refine gQ (zaf rfl) ?_
    refine gQ (zaY rfl rfl (by omega) (by omega)) ?_
    refine gQ (zad rfl) ?_
    refine zag (zae (T':=[(0,_),(1,_),(4,_),(5,_),(6,_),(7,_)]) ⟨rfl,rfl,rfl,rfl,rfl,rfl,trivial⟩ ?_)
    exact za1 (i+1,f,b,bc,M) ⟨rfl,rfl,rfl,rfl,rfl,rfl,trivial⟩ rfl (zAn hCI hc11 (of_decide_eq_false hc18)) (by simp only []; omega)
  ·have hc11:=of_decide_eq_false hc11
   refine za8 rfl ?_
   refine zac ?_
   refine zaa ?_
   refine gQ (zaf rfl) ?_
   refine gQ (zaf rfl) ?_
   refine gQ (zaf rfl) ?_
   refine gQ (zzZ (Tryz.underlying9) rfl rfl (by omega) (by omega)) ?_
   refine zaG rfl rfl (zaD rfl (zAm _) ztJ rfl) fun b32=>?_
   refine zb4 (m:=[(s.extract f.toNat s.size)]) 1 zBl ztJ rfl rfl rfl rfl (fun _ hw=>(zam ztJ (hw.has (p:=0) rfl))) (by first | omega | (simp only [List.length_cons,List.length_nil]; omega)) (by first | (unfold maxLen; omega) | (simp only [List.length_cons,List.length_nil,maxLen]; omega)) fun a33 c33=>?_
   refine gQ (zad rfl) ?_
   refine zag (zae (T':=[(4,_)]) ⟨rfl,trivial⟩ ?_)
   refine zaw ?_
   refine zbd (a33,c33) 1 (zaC rfl (zau rfl)) ?_ (by rw [←zz0 hCI hc11]; rfl)
   rw [←zz0 hCI hc11]
set_option maxRecDepth 100000 in
set_option maxHeartbeats 1000000 in
theorem zzp (s:ByteArray) (w:World) (_hsz:s.size≤1000000) :
  Calls Tryz.prog 93 #[.string s] w (Pure (.tuple #[.int .i64 (zyZ s),.bool (numW s)]) w):=by
 refine zan (vs:=[_]) Tryz.func93 rfl rfl (Nat.le_of_ble_eq_true rfl) ?_
 refine zac ?_
 refine zaa ?_
 refine gQ (zad rfl) ?_
 refine gQ (zad rfl) ?_
 refine zag (zae (T':=[(0,_),(2,_),(3,_)]) ⟨rfl,rfl,rfl,trivial⟩ ?_)
 refine zac ?_
 refine zaa ?_
 refine gQ (zad rfl) ?_
 refine zag (zae (T':=[(0,_),(2,_),(3,_),(4,_)]) ⟨rfl,rfl,rfl,rfl,trivial⟩ ?_)
 refine zac ?_
 refine zac ?_
 refine zaa ?_
 refine gQ (zad rfl) ?_
 refine zag (zae (T':=[(0,_),(2,_),(3,_),(4,_),(5,_)]) ⟨rfl,rfl,rfl,rfl,rfl,trivial⟩ ?_)
 refine zas ?_
 refine zbf (X:=Int×Int) (fun⟨k,i⟩=>[(0,.string s),(2,.int .i64 0),(3,.bool false),(4,.int .i64 k),(5,.int .i64 i)]) (fun⟨k,i⟩=>[]) (fun⟨k,i⟩=>(NumI s k i)) (fun⟨k,i⟩=>(s.size - i).toNat) (0,0) ⟨rfl,rfl,rfl,rfl,rfl,trivial⟩ rfl ?_ ?_
 ·exact zAe
 ·rintro ⟨k,i⟩ hI
  have hN:NumI s k i:=hI
  obtain⟨g0,g1,g2,g3,g4⟩:=hI
  refine zac ?_
  refine zac ?_
  refine zaa ?_
  refine gQ (zaf rfl) ?_
  refine gQ (zaf rfl) ?_
  refine gQ (zeO (Tryz.underlying9) rfl) ?_
  refine gQ (zbw rfl rfl) ?_
  refine zag (zae (T':=[(0,_),(2,_),(3,_),(4,_),(5,_),(9,_)]) ⟨rfl,rfl,rfl,rfl,rfl,rfl,trivial⟩ ?_)
  refine zap rfl (fun hc9=>?_) (fun hc9=>?_)
  ·have hc9:=of_decide_eq_true hc9
   refine zaq ?_
   refine zac ?_
   refine zas ?_
   refine zac ?_
   refine zac ?_
   refine zbb 10 (fun _=>mixed) (by kernel_rfl) ?_
   refine ph_y (zaf rfl) ?_
   refine ph_y (zaf rfl) ?_
   refine ph_y (zdM (Tryz.underlying9) rfl rfl (by omega) (by omega)) ?_
   refine ph_y (zbw rfl rfl) ?_
   refine ph_y (zaf rfl) ?_
   refine zaz rfl rfl (fun hgd=>by(try rw [hgd]); exact(zaf rfl)) ?_
   refine zaz rfl rfl (fun hgd=>by(try rw [hgd]); exact(zaf rfl)) ?_
   refine zaz rfl rfl (fun hgd=>by(try rw [hgd]); exact(zdM (Tryz.underlying9) rfl rfl (by omega) (by omega))) ?_
   refine zaz rfl rfl (fun hgd=>by(try rw [hgd]); exact(zc6 rfl rfl)) ?_
   refine ph_y (zaR rfl rfl rfl) ?_
   refine zag (zae (T':=[(0,_),(2,_),(3,_),(4,_),(5,_),(21,_)]) ⟨rfl,rfl,rfl,rfl,rfl,rfl,trivial⟩ ?_)
   refine zap rfl (fun hc21=>?_) (fun hc21=>?_)
   ·have hb:zee s i < 48∨57 < zee s i:=by have h:=hc21; rw [Bool.or_eq_true] at h; exact h.imp of_decide_eq_true of_decide_eq_true
    refine zac ?_
    refine zaa ?_
    refine gQ (zad rfl) ?_
    refine gQ (zad rfl) ?_
    refine zag (zae (T':=[(0,_),(2,_),(3,_),(4,_),(5,_)]) ⟨rfl,rfl,rfl,rfl,rfl,trivial⟩ ?_)
    refine zaw ?_
    refine zay (zc2 rfl (zau rfl) (zau rfl)) ?_
    rw [zAP g0 hc9 hb,zA3 g0 hc9 hb]
   ·obtain⟨hb1,hb2⟩:=Bool.or_eq_false_iff.1 hc21
    have hb1:¬ zee s i < 48:=of_decide_eq_false hb1
    have hb2:¬ 57 < zee s i:=of_decide_eq_false hb2
    have hbd:=zA2 hN
    refine zaq ?_
    refine zac ?_
    refine zaa ?_
    refine gQ (zaf rfl) ?_
    refine gQ (zdv rfl rfl) ?_
    refine gQ (zaf rfl) ?_
    refine gQ (zaf rfl) ?_
    refine gQ (zdM (Tryz.underlying9) rfl rfl (by omega) (by omega)) ?_
    refine gQ (ziW rfl rfl) ?_
    refine gQ (ziU (by kernel_rfl) (Tryz.underlying3) rfl) ?_
    refine gQ (zfw rfl rfl) ?_
    refine gQ (zad rfl) ?_
    refine zag (zae (T':=[(0,_),(2,_),(3,_),(4,_),(5,_)]) ⟨rfl,rfl,rfl,rfl,rfl,trivial⟩ ?_)
    refine zae (T':=[(0,_),(2,_),(3,_),(4,.int .i64 (10*k+(zee s i - 48))),(5,_)]) ⟨rfl,rfl,rfl,(by show some (Value.int .i64 (IntKind.i64.wrap (IntKind.i64.wrap (10*k)+IntKind.i64.wrap (IntKind.u8.wrap (zee s i - 48)))))=some _; rw [zwr (n:=zee s i - 48) (by omega) (by omega),zeA (n:=10*k) (by omega) (by omega),zeA (n:=zee s i - 48) (by omega) (by omega),zeA (by omega) (by omega)]),rfl,trivial⟩ ?_
    refine zac ?_
    refine zaa ?_
    refine gQ (zaf rfl) ?_
    refine gQ (zfx rfl rfl) ?_
    refine zag (zae (T':=[(0,_),(2,_),(3,_),(4,_),(5,_),(31,_)]) ⟨rfl,rfl,rfl,rfl,rfl,rfl,trivial⟩ ?_)
    refine zap rfl (fun hc31=>?_) (fun hc31=>?_)
    ·have hc31:=of_decide_eq_true hc31
     refine zac ?_
     refine zaa ?_
     refine gQ (zad rfl) ?_
     refine gQ (zad rfl) ?_
     refine zag (zae (T':=[(0,_),(2,_),(3,_),(4,_),(5,_)]) ⟨rfl,rfl,rfl,rfl,rfl,trivial⟩ ?_)
     refine zaw ?_
     refine zay (zc2 rfl (zau rfl) (zau rfl)) ?_
     rw [zAh (by omega) hc9,zAs (by omega) hc9]
    ·have hc31:=of_decide_eq_false hc31
     refine zaq ?_
     refine zaa ?_
     refine gQ (zaf rfl) ?_
     refine gQ (zaY rfl rfl (by omega) (by omega)) ?_
     refine gQ (zad rfl) ?_
     refine zag (zae (T':=[(0,_),(2,_),(3,_),(4,_),(5,_)]) ⟨rfl,rfl,rfl,rfl,rfl,trivial⟩ ?_)
     exact za1 (10*k+(zee s i - 48),i+1) ⟨rfl,rfl,rfl,rfl,rfl,trivial⟩ rfl (zAu hN hc9 (by omega) (by omega) (by omega)) (by simp only []; omega)
  ·have hc9:=of_decide_eq_false hc9
   refine za8 rfl ?_
   refine zac ?_
   refine zbb 15 (fun _=>mixed) (by kernel_rfl) ?_
   refine ph_y (zaf rfl) ?_
   refine ph_y (zaf rfl) ?_
   refine ph_y (ziV rfl rfl) ?_
   refine ph_y (zaf rfl) ?_
   refine zaH rfl rfl (fun hgd=>by(try rw [hgd]); (try have hgd2:=zj3 hgd); exact(zaf rfl)) ?_
   refine zaH rfl rfl (fun hgd=>by(try rw [hgd]); (try have hgd2:=zj3 hgd); exact(zdM (Tryz.underlying9) rfl rfl (by omega) (by omega))) ?_
   refine zaH rfl rfl (fun hgd=>by(try rw [hgd]); (try have hgd2:=zj3 hgd); exact(zcr rfl rfl)) ?_
   refine zaH rfl rfl (fun hgd=>by(try rw [hgd]); (try have hgd2:=zj3 hgd); exact(zaf rfl)) ?_
   refine zc0 rfl rfl (fun hgd=>by(try rw [hgd]); (try have hgd2:=zj3 hgd); exact(zaf rfl)) ?_
   refine zc0 rfl rfl (fun hgd=>by(try rw [hgd]); (try have hgd2:=zj3 hgd); exact(zeO (Tryz.underlying9) rfl)) ?_
   refine zc0 rfl rfl (fun hgd=>by(try rw [hgd]); (try have hgd2:=zj3 hgd); exact(zbL rfl rfl)) ?_
   refine zaH rfl rfl (fun hgd=>by(try rw [hgd]); (try have hgd2:=zj3 hgd); exact(zaR rfl rfl rfl)) ?_
   refine ph_y (zaX rfl rfl rfl) ?_
   refine ph_y (zad rfl) ?_
   refine ph_y (zad rfl) ?_
   refine zag (zae (T':=[(2,_),(3,_)]) ⟨rfl,rfl,trivial⟩ ?_)
   refine zaw ?_
   refine zay (zc2 rfl (zau rfl) (zau rfl)) ?_
   rw [zAB hN hc9,zAL hN hc9]; rfl
end Go.Proofs.YtdcfcfhmkfkgmaaGreatDoor
namespace Go.Pln
open Go Go.K Go.RowKit Go.Stn Go.Txt
def zyV:List ByteArray→List ByteArray→List Int→Option (List Int×List ByteArray)
 | [],ws,acc=>some (acc,ws)
 | _ :: _,[],_=>none
 | p :: ps,x :: ws,acc=>if (p.toList == (⟨#[35]⟩:ByteArray).toList)=true then(if numW x=true then zyV ps ws (acc++[zdO x]) else none) else if (x.toList == p.toList)=true then zyV ps ws acc else none
def zAk (a:Option Addr) (cap:Nat) (ws:List ByteArray) (pat:ByteArray) (z:Option Addr×Nat):Value:=
 match zyV (zcn pat 32) ws [] with
 | some x=>.tuple #[.slice z.1 x.1.length z.2,.slice (subA a 1 (zcn pat 32).length cap) (ws.drop (zcn pat 32).length).length (cap - (zcn pat 32).length),.bool true]
 | none=>.tuple #[.slice none 0 0,.slice none 0 0,.bool false]
def zAj (ws:List ByteArray) (pat:ByteArray) (z:Option Addr×Nat):Res:=
 match zyV (zcn pat 32) ws [] with
 | some x=>Row z.1 1 z.2 3 Go.Stn.encI x.1
 | none=>Emp
theorem zAq {c:Cx} {ds:List Deferred} {T:List (Nat×Value)} {H:List Res} {K:Act→World→Prop} (h:GK c ds K T (Emp :: H)):GK c ds K T H:=fun a w ha hw=>
 h a w ha ⟨hw.base,fun _=>False,fun _ hk=>hk.elim,trivial,Holds.anti H (fun _ hk=>hk.elim id False.elim) hw.holds⟩
section
variable {P ws:List ByteArray} {N:List Int} {i:Int}
theorem zyX {l:List ByteArray} {i:Int} (h0:0≤i) (h:i < (l.length:Int)):l.drop i.toNat=l.getD i.toNat default :: l.drop (i+1).toNat:=by
 have hlt:i.toNat < l.length:=by omega
 rw [List.drop_eq_getElem_cons hlt,show(i+1).toNat=i.toNat+1 from by omega,List.getD_eq_getElem?_getD,List.getElem?_eq_getElem hlt]; rfl
theorem zzD (h0:0≤i) (h:i < (P.length:Int)) (hw:(ws.length:Int)≤i):zyV (P.drop i.toNat) (ws.drop i.toNat) N=none:=by
 rw [zyX h0 h,List.drop_of_length_le (l:=ws) (by omega),zyV]
theorem zAS (h0:0≤i) (h:i < (P.length:Int)) (hw:i < (ws.length:Int)) (hp:((P.getD i.toNat default).toList == (⟨#[35]⟩:ByteArray).toList)=true) (hn:numW (ws.getD i.toNat default)=true) :
  zyV (P.drop i.toNat) (ws.drop i.toNat) N=zyV (P.drop (i+1).toNat) (ws.drop (i+1).toNat) (N++[zyZ (ws.getD i.toNat default)]):=by
 rw [zyX h0 h,zyX h0 hw,zyV,if_pos hp,if_pos hn,zzo hn]
theorem zz4 (h0:0≤i) (h:i < (P.length:Int)) (hw:i < (ws.length:Int)) (hp:((P.getD i.toNat default).toList == (⟨#[35]⟩:ByteArray).toList)=true) (hn:numW (ws.getD i.toNat default)=false) :
  zyV (P.drop i.toNat) (ws.drop i.toNat) N=none:=by
 rw [zyX h0 h,zyX h0 hw,zyV,if_pos hp,if_neg (by rw [hn]; exact Bool.false_ne_true)]
theorem zAF (h0:0≤i) (h:i < (P.length:Int)) (hw:i < (ws.length:Int)) (hp:((P.getD i.toNat default).toList == (⟨#[35]⟩:ByteArray).toList)=false) (he:((ws.getD i.toNat default).toList == (P.getD i.toNat default).toList)=true) :
  zyV (P.drop i.toNat) (ws.drop i.toNat) N=zyV (P.drop (i+1).toNat) (ws.drop (i+1).toNat) N:=by
 rw [zyX h0 h,zyX h0 hw,zyV,if_neg (by rw [hp]; exact Bool.false_ne_true),if_pos he]
theorem zzC (h0:0≤i) (h:i < (P.length:Int)) (hw:i < (ws.length:Int)) (hp:((P.getD i.toNat default).toList == (⟨#[35]⟩:ByteArray).toList)=false) (he:((ws.getD i.toNat default).toList == (P.getD i.toNat default).toList)=false) :
  zyV (P.drop i.toNat) (ws.drop i.toNat) N=none:=by
 rw [zyX h0 h,zyX h0 hw,zyV,if_neg (by rw [hp]; exact Bool.false_ne_true),if_neg (by rw [he]; exact Bool.false_ne_true)]
theorem zsm (h:¬ i < (P.length:Int)):zyV (P.drop i.toNat) (ws.drop i.toNat) N=some (N,ws.drop i.toNat):=by
 rw [List.drop_of_length_le (l:=P) (by omega),zyV]
end
end Go.Pln
namespace Go.Proofs.YtdcfcfhmkfkgmaaGreatDoor
open Go.K Go.Stn Go.Pln Go.RowKit
theorem en60:En Tryz.prog 60:=za7 Tryz.func60 (by kernel_rfl) (by kernel_rfl)
theorem en93:En Tryz.prog 93:=za7 Tryz.func93 (by kernel_rfl) (by kernel_rfl)
set_option maxRecDepth 100000 in
set_option maxHeartbeats 1000000 in
theorem zBa (a:Option Addr) (cap:Nat) (ws:List ByteArray) (pat:ByteArray) (w:World) (hl:Has w (zaW a 1 encS ws)) (_hcap:ws.length≤cap) (hs:ws.length≤100000) (hwz:∀ x∈ws,x.size≤1000000) (hsz:pat.size≤1000) :
  Calls Tryz.prog 94 #[.slice a ws.length cap,.string pat] w (zcU (zAk a cap ws pat) (zAj ws pat) w):=by
 have hP:=(zjw pat 32).2
 refine zan (vs:=[_,_]) Tryz.func94 rfl rfl (Nat.le_of_ble_eq_true rfl) ?_
 refine zac ?_
 refine zaa ?_
 refine gQ (zad rfl) ?_
 refine gQ (zad rfl) ?_
 refine gQ (zad rfl) ?_
 refine zag (zae (T':=[(0,_),(1,_),(4,_),(5,_),(6,_)]) ⟨rfl,rfl,rfl,rfl,rfl,trivial⟩ ?_)
 refine zac ?_
 refine zaa ?_
 refine gQ (zaf rfl) ?_
 refine zaG rfl rfl (zbm en60 rfl (fun w hw=>zAx pat 32 w (by omega))) fun p13=>?_
 refine gQ (zad rfl) ?_
 refine zag (zae (T':=[(0,_),(4,_),(5,_),(6,_),(7,_)]) ⟨rfl,rfl,rfl,rfl,rfl,trivial⟩ ?_)
 refine zac ?_
 refine zaa ?_
 refine gQ (zad rfl) ?_
 refine zag (zae (T':=[(0,_),(4,_),(5,_),(6,_),(7,_),(8,_)]) ⟨rfl,rfl,rfl,rfl,rfl,rfl,trivial⟩ ?_)
 refine zac ?_
 refine zac ?_
 refine zaa ?_
 refine gQ (zad rfl) ?_
 refine zag (zae (T':=[(0,_),(4,_),(5,_),(6,_),(7,_),(8,_),(9,_)]) ⟨rfl,rfl,rfl,rfl,rfl,rfl,rfl,trivial⟩ ?_)
 refine zas ?_
 refine zbB 3 Go.Stn.encI 1 ?_
 refine zbf (X:=Int×Option Addr×Nat×List Int) (fun⟨i,b,bc,N⟩=>[(0,.slice a ws.length cap),(4,.slice none 0 0),(5,.slice none 0 0),(6,.bool false),(7,.slice p13.1 (zcn pat 32).length p13.2),(8,.slice b N.length bc),(9,.int .i64 i)]) (fun⟨i,b,bc,N⟩=>[Row b 1 bc 3 Go.Stn.encI N,Row p13.1 1 p13.2 9 encS (zcn pat 32)]) (fun⟨i,b,bc,N⟩=>(0≤i∧i≤(zcn pat 32).length∧i≤ws.length∧N.length≤i∧zyV (zcn pat 32) ws []=zyV ((zcn pat 32).drop i.toNat) (ws.drop i.toNat) N)) (fun⟨i,b,bc,N⟩=>((zcn pat 32).length - i).toNat) (0,none,0,[]) ⟨rfl,rfl,rfl,rfl,rfl,rfl,rfl,trivial⟩ rfl ?_ ?_
 ·exact⟨by omega,by omega,by omega,by simp,rfl⟩
 ·rintro ⟨i,b,bc,N⟩ hI
  obtain⟨g0,g1,g2,g3,hT⟩:=hI
  refine zac ?_
  refine zac ?_
  refine zaa ?_
  refine gQ (zaf rfl) ?_
  refine gQ (zaf rfl) ?_
  refine gQ (zaV (Tryz.underlying124) rfl) ?_
  refine gQ (zbw rfl rfl) ?_
  refine zag (zae (T':=[(0,_),(4,_),(5,_),(6,_),(7,_),(8,_),(9,_),(17,_)]) ⟨rfl,rfl,rfl,rfl,rfl,rfl,rfl,rfl,trivial⟩ ?_)
  refine zap rfl (fun hc17=>?_) (fun hc17=>?_)
  ·have hc17:=of_decide_eq_true hc17
   refine zaq ?_
   refine zac ?_
   refine zas ?_
   refine zac ?_
   refine zac ?_
   refine zaa ?_
   refine gQ (zaf rfl) ?_
   refine gQ (zaf rfl) ?_
   refine gQ (zaV (Tryz.underlying124) rfl) ?_
   refine gQ (zfx rfl rfl) ?_
   refine zag (zae (T':=[(0,_),(4,_),(5,_),(6,_),(7,_),(8,_),(9,_),(23,_)]) ⟨rfl,rfl,rfl,rfl,rfl,rfl,rfl,rfl,trivial⟩ ?_)
   refine zap rfl (fun hc23=>?_) (fun hc23=>?_)
   ·have hc23:=of_decide_eq_true hc23
    refine zac ?_
    refine zaa ?_
    refine gQ (zad rfl) ?_
    refine gQ (zad rfl) ?_
    refine gQ (zad rfl) ?_
    refine zag (zae (T':=[(0,_),(4,_),(5,_),(6,_),(7,_),(8,_),(9,_)]) ⟨rfl,rfl,rfl,rfl,rfl,rfl,rfl,trivial⟩ ?_)
    refine zaw ?_
    refine zAq ?_
    exact zbd (none,0) 0 (zdh rfl (zau rfl) (zau rfl) (zau rfl)) (by rw [zAk,hT,zzD g0 hc17 (by omega)]) (by rw [zAj,hT,zzD g0 hc17 (by omega)]; rfl)
   ·have hc23:=of_decide_eq_false hc23
    refine zaq ?_
    refine zac ?_
    refine zaa ?_
    refine gQ (zaf rfl) ?_
    refine gQ (zaf rfl) ?_
    refine gQ (zaE zqJ rfl rfl (fun _ hw=>(zam ztJ (hw.has (p:=1) rfl))) (by omega) (by omega)) ?_
    refine gQ (zcE tf9 rfl (fun _ hw=>(zam ztJ (hw.has (p:=1) rfl))) (by omega) (by omega) rfl) ?_
    refine gQ (zge rfl rfl) ?_
    refine zag (zae (T':=[(0,_),(4,_),(5,_),(6,_),(7,_),(8,_),(9,_),(28,_)]) ⟨rfl,rfl,rfl,rfl,rfl,rfl,rfl,rfl,trivial⟩ ?_)
    refine zap rfl (fun hc28=>?_) (fun hc28=>?_)
    ·have hp:(((zcn pat 32).getD i.toNat default).toList == (⟨#[35]⟩:ByteArray).toList)=true:=hc28
     have hwi:=hwz _ (za0 (l:=ws) (i:=i.toNat) (by omega))
     refine zac ?_
     refine zaa ?_
     refine gQ (zaf rfl) ?_
     refine gQ (zaf rfl) ?_
     refine gQ (zaE zqJ rfl rfl (fun _ hw=>(Rd.has (Has.rd hl) hw)) (by omega) (by omega)) ?_
     refine gQ (zcE tf9 rfl (fun _ hw=>(Rd.has (Has.rd hl) hw)) (by omega) (by omega) rfl) ?_
     refine gQ (zaJ en93 rfl (fun w hw=>zzp (ws.getD (i).toNat default) w (by omega))) ?_
     refine gQ (zaf rfl) ?_
     refine gQ (zaB rfl rfl) ?_
     refine gQ (zaB rfl rfl) ?_
     refine gQ (zad rfl) ?_
     refine gQ (zad rfl) ?_
     refine zag (zae (T':=[(0,_),(4,_),(5,_),(6,_),(7,_),(8,_),(9,_),(10,_),(11,_)]) ⟨rfl,rfl,rfl,rfl,rfl,rfl,rfl,rfl,rfl,trivial⟩ ?_)
     refine zac ?_
     refine zac ?_
     refine zaa ?_
     refine gQ (zaf rfl) ?_
     refine gQ (zbR rfl) ?_
     refine zag (zae (T':=[(0,_),(4,_),(5,_),(6,_),(7,_),(8,_),(9,_),(10,_),(38,_)]) ⟨rfl,rfl,rfl,rfl,rfl,rfl,rfl,rfl,rfl,trivial⟩ ?_)
     refine zap rfl (fun hc38=>?_) (fun hc38=>?_)
     ·have hn:numW (ws.getD i.toNat default)=false:=by simpa using hc38
      refine zac ?_
      refine zaa ?_
      refine gQ (zad rfl) ?_
      refine gQ (zad rfl) ?_
      refine gQ (zad rfl) ?_
      refine zag (zae (T':=[(0,_),(4,_),(5,_),(6,_),(7,_),(8,_),(9,_),(10,_)]) ⟨rfl,rfl,rfl,rfl,rfl,rfl,rfl,rfl,trivial⟩ ?_)
      refine zaw ?_
      refine zAq ?_
      exact zbd (none,0) 0 (zdh rfl (zau rfl) (zau rfl) (zau rfl)) (by rw [zAk,hT,zz4 g0 hc17 (by omega) hp hn]) (by rw [zAj,hT,zz4 g0 hc17 (by omega) hp hn]; rfl)
     ·have hn:numW (ws.getD i.toNat default)=true:=by simpa using hc38
      refine zaq ?_
      refine zaa ?_
      refine gQ (zaf rfl) ?_
      refine gQ (zaf rfl) ?_
      refine zaG rfl rfl (zaD rfl (zo0 _) Go.Stn.encI_ok rfl) fun b41=>?_
      refine zb4 (m:=[(zyZ (ws.getD (i).toNat default))]) 1 af35 Go.Stn.encI_ok rfl rfl rfl rfl (fun _ hw=>(zam Go.Stn.encI_ok (hw.has (p:=0) rfl))) (by first | omega | (simp only [List.length_cons,List.length_nil]; omega)) (by first | (unfold maxLen; omega) | (simp only [List.length_cons,List.length_nil,maxLen]; omega)) fun a42 c42=>?_
      refine gQ (zad rfl) ?_
      refine zag (zae (T':=[(0,_),(4,_),(5,_),(6,_),(7,_),(8,_),(9,_)]) ⟨rfl,rfl,rfl,rfl,rfl,rfl,rfl,trivial⟩ ?_)
      refine zaa ?_
      refine gQ (zaf rfl) ?_
      refine gQ (zaY rfl rfl (by omega) (by omega)) ?_
      refine gQ (zad rfl) ?_
      refine zag (zae (T':=[(0,_),(4,_),(5,_),(6,_),(7,_),(8,_),(9,_)]) ⟨rfl,rfl,rfl,rfl,rfl,rfl,rfl,trivial⟩ ?_)
      refine zaK 0 rfl ?_
      exact za1 (i+1,a42,c42,N++[zyZ (ws.getD i.toNat default)]) ⟨rfl,rfl,rfl,rfl,rfl,rfl,rfl,trivial⟩ rfl ⟨by omega,by omega,by omega,by simp; omega,by rw [hT,zAS g0 hc17 (by omega) hp hn]⟩ (by simp only []; omega)
    ·have hp:(((zcn pat 32).getD i.toNat default).toList == (⟨#[35]⟩:ByteArray).toList)=false:=hc28
     refine zac ?_
     refine zbb 9 (fun _=>mixed) (by kernel_rfl) ?_
     refine ph_y (zaf rfl) ?_
     refine ph_y (zaf rfl) ?_
     refine ph_y (zaE zqJ rfl rfl (fun _ hw=>(Rd.has (Has.rd hl) hw)) (by omega) (by omega)) ?_
     refine ph_y (zcE tf9 rfl (fun _ hw=>(Rd.has (Has.rd hl) hw)) (by omega) (by omega) rfl) ?_
     refine ph_y (zaf rfl) ?_
     refine ph_y (zaf rfl) ?_
     refine ph_y (zaE zqJ rfl rfl (fun _ hw=>(zam ztJ (hw.has (p:=1) rfl))) (by omega) (by omega)) ?_
     refine ph_y (zcE tf9 rfl (fun _ hw=>(zam ztJ (hw.has (p:=1) rfl))) (by omega) (by omega) rfl) ?_
     refine ph_y (ziV rfl rfl) ?_
     refine zag (zae (T':=[(0,_),(4,_),(5,_),(6,_),(7,_),(8,_),(9,_),(51,_)]) ⟨rfl,rfl,rfl,rfl,rfl,rfl,rfl,rfl,trivial⟩ ?_)
     refine zap rfl (fun hc51=>?_) (fun hc51=>?_)
     ·have he:((ws.getD i.toNat default).toList == ((zcn pat 32).getD i.toNat default).toList)=false:=by simpa using hc51
      refine zac ?_
      refine zaa ?_
      refine gQ (zad rfl) ?_
      refine gQ (zad rfl) ?_
      refine gQ (zad rfl) ?_
      refine zag (zae (T':=[(0,_),(4,_),(5,_),(6,_),(7,_),(8,_),(9,_)]) ⟨rfl,rfl,rfl,rfl,rfl,rfl,rfl,trivial⟩ ?_)
      refine zaw ?_
      refine zAq ?_
      exact zbd (none,0) 0 (zdh rfl (zau rfl) (zau rfl) (zau rfl)) (by rw [zAk,hT,zzC g0 hc17 (by omega) hp he]) (by rw [zAj,hT,zzC g0 hc17 (by omega) hp he]; rfl)
     ·have he:((ws.getD i.toNat default).toList == ((zcn pat 32).getD i.toNat default).toList)=true:=by simpa using hc51
      refine zaq ?_
      refine zaa ?_
      refine gQ (zaf rfl) ?_
      refine gQ (zaY rfl rfl (by omega) (by omega)) ?_
      refine gQ (zad rfl) ?_
      refine zag (zae (T':=[(0,_),(4,_),(5,_),(6,_),(7,_),(8,_),(9,_)]) ⟨rfl,rfl,rfl,rfl,rfl,rfl,rfl,trivial⟩ ?_)
      exact za1 (i+1,b,bc,N) ⟨rfl,rfl,rfl,rfl,rfl,rfl,rfl,trivial⟩ rfl ⟨by omega,by omega,by omega,by omega,by rw [hT,zAF g0 hc17 (by omega) hp he]⟩ (by simp only []; omega)
  ·have hc17:=of_decide_eq_false hc17
   refine za8 rfl ?_
   refine zac ?_
   refine zbb 8 (fun _=>mixed) (by kernel_rfl) ?_
   refine ph_y (zaf rfl) ?_
   refine ph_y (zaf rfl) ?_
   refine ph_y (zaf rfl) ?_
   refine ph_y (zaV (Tryz.underlying124) rfl) ?_
   refine ph_y (zg9 zqJ rfl rfl (by omega) (by omega)) ?_
   refine ph_y (zad rfl) ?_
   refine ph_y (zad rfl) ?_
   refine ph_y (zad rfl) ?_
   refine zag (zae (T':=[(4,_),(5,_),(6,_)]) ⟨rfl,rfl,rfl,trivial⟩ ?_)
   refine zaw ?_
   exact zbd (b,bc) 0 (zdh rfl (zau rfl) (zau rfl) (zau rfl)) (by rw [zAk,hT,zsm hc17]; rfl) (by rw [zAj,hT,zsm hc17]; rfl)
end Go.Proofs.YtdcfcfhmkfkgmaaGreatDoor
namespace Go.Pln
open Go Go.K Go.RowKit Go.Stn Go.Txt
def toO {α:Type}:Except Int α→Option α
 | .ok x=>some x
 | .error _=>none
theorem zy2 {α β:Type} (a:Except Int α) (f:α→Except Int β):toO (a >>= f)=(toO a).bind fun x=>toO (f x):=by cases a <;> rfl
theorem zAG {α:Type} (x:α):toO (.ok x:Except Int α)=some x:=rfl
theorem zBi {α:Type} (k:Int):toO (.error k:Except Int α)=none:=rfl
theorem zBj {α:Type} {p:Prop} [Decidable p] (a b:Except Int α):toO (if p then a else b)=if p then toO a else toO b:=by split <;> rfl
theorem zAT {α:Type} {a:Except Int α} (h:toO a=none):∃ k,a=.error k:=by
 cases a with
 | ok x=>cases h
 | error k=>exact⟨k,rfl⟩
theorem zz8 {α:Type} {a:Except Int α} {x:α} (h:toO a=some x):a=.ok x:=by
 cases a with
 | ok y=>cases h; rfl
 | error k=>cases h
def E4 {α:Type} (r:Except Int α):Prop:=∀ k,r=.error k→k=4
theorem zzj {α:Type} (x:α):E4 (.ok x:Except Int α):=fun _ h=>by cases h
theorem zzc {α:Type}:E4 (.error 4:Except Int α):=fun _ e=>by cases e; rfl
theorem zyU {α β:Type} {a:Except Int α} {f:α→Except Int β} (h1:E4 a) (h2:∀ x,E4 (f x)):E4 (a >>= f):=by
 cases a with
 | ok x=>rw [zak]; exact h2 x
 | error k=>rw [zcc,h1 k rfl]; exact zzc
theorem zzi {α:Type} {p:Prop} [Decidable p] {a b:Except Int α} (h1:E4 a) (h2:E4 b):E4 (if p then a else b):=by
 split
 ·exact h1
 ·exact h2
theorem zzF:∀ ws:List ByteArray,E4 (zdp ws)
 | []=>zzc
 | _ :: _=>zzj _
theorem zAC (u:ByteArray) (ws:List ByteArray):E4 (sayE u ws):=zyU (zzF ws) fun _=>zzi (zzj _) zzc
theorem zA0 (ws:List ByteArray):E4 (zes ws):=zyU (zzF ws) fun _=>zzi (zzj _) zzc
theorem zBs (ws:List ByteArray):E4 (endE ws):=zzi (zzj _) zzc
theorem zBu (ws:List ByteArray):E4 (numE ws):=zyU (zzF ws) fun _=>zzi (zzj _) zzc
theorem zzG:∀ (n:Nat) (ws:List ByteArray),E4 (zco n ws)
 | 0,_=>zzj _
 | n+1,ws=>zyU (zBu ws) fun x=>zyU (zzG n x.2) fun _=>zzj _
theorem zAr (l:List ByteArray) (f:Nat) (ws:List ByteArray):E4 (zfk l f ws):=zyU (zzF ws) fun _=>zzi zzc (zzj _)
theorem zy8 (u:ByteArray) (n:Nat) (ws:List ByteArray):E4 (oneE u n ws):=zyU (zAC u ws) fun x=>zzG n x.2
theorem zzv:∀ (ws:List ByteArray) (acc:List Int),E4 (zbF acc ws)
 | [],_=>zzj _
 | _ :: r,acc=>by
  rw [zbF]
  exact zzi (zzj _) (zzi (zzv r _) zzc)
theorem zAR (ws:List ByteArray):E4 (zci ws):=by
 unfold zci
 refine zyU (zA0 _) fun _=>zyU (zy8 _ _ _) fun _=>zyU (zy8 _ _ _) fun _=>zyU (zy8 _ _ _) fun _=>zyU (zy8 _ _ _) fun _=>zyU (zAC _ _) fun _=>zyU (zzv _ _) fun _=>?_
 refine zyU (zy8 _ _ _) fun _=>zyU (zy8 _ _ _) fun _=>zyU (zy8 _ _ _) fun _=>zyU (zy8 _ _ _) fun _=>zyU (zy8 _ _ _) fun _=>zyU (zAC _ _) fun _=>zyU (zAr _ _ _) fun _=>zyU (zzG _ _) fun _=>?_
 exact zyU (zy8 _ _ _) fun _=>zyU (zy8 _ _ _) fun _=>zzi zzc (zzj _)
def zy3:ByteArray:=⟨#[35]⟩
theorem zzs (ps ws:List ByteArray) (acc:List Int):zyV (zy3 :: ps) ws acc=(toO (numE ws)).bind fun x=>zyV ps x.2 (acc++[x.1]):=by
 cases ws with
 | nil=>rfl
 | cons x r=>
  rw [zyV,if_pos (by decide +kernel)]
  unfold numE
  rw [show zdp (x :: r)=.ok (x,r) from rfl,zak]
  by_cases h:numW x=true
  ·rw [if_pos h,if_pos h]; rfl
  ·rw [if_neg h,if_neg h]; rfl
theorem zyW {u:ByteArray} (hu:(u.toList == (⟨#[35]⟩:ByteArray).toList)=false) (ps ws:List ByteArray) (acc:List Int):zyV (u :: ps) ws acc=(toO (sayE u ws)).bind fun x=>zyV ps x.2 acc:=by
 cases ws with
 | nil=>rfl
 | cons x r=>
  rw [zyV,if_neg (by rw [hu]; exact Bool.false_ne_true)]
  unfold sayE
  rw [show zdp (x :: r)=.ok (x,r) from rfl,zak]
  by_cases h:(x.toList == u.toList)=true
  ·rw [if_pos h,if_pos h]; rfl
  ·rw [if_neg h,if_neg h]; rfl
theorem zzr (ws:List ByteArray) (acc:List Int):zyV [] ws acc=some (acc,ws):=rfl
theorem zAv (ws:List ByteArray):toO (zco 0 ws)=some ([],ws):=rfl
theorem zA4 (n:Nat) (ws:List ByteArray):toO (zco (n+1) ws)=(toO (numE ws)).bind fun x=>(toO (zco n x.2)).bind fun y=>some (x.1 :: y.1,y.2):=by
 rw [zco,zy2]
 congr 1; funext x
 rw [zy2]; rfl
theorem oneO (u:ByteArray) (n:Nat) (ws:List ByteArray):toO (oneE u n ws)=(toO (sayE u ws)).bind fun x=>toO (zco n x.2):=zy2 _ _
def patA:ByteArray:=⟨#[98,97,115,101,32,35,32,98,97,116,116,101,114,32,35,32,104,101,105,103,104,116,32,35,32,115,107,105,110,32,35,32,104,101,105,103,104,116,115,32,35]⟩
theorem zzx:zcn patA 32=[⟨#[98,97,115,101]⟩,zy3,⟨#[98,97,116,116,101,114]⟩,zy3,⟨#[104,101,105,103,104,116]⟩,zy3,⟨#[115,107,105,110]⟩,zy3,⟨#[104,101,105,103,104,116,115]⟩,zy3]:=by decide +kernel
def patB:ByteArray:=⟨#[108,101,97,115,116,32,35,32,108,97,112,32,35,32,114,117,110,32,35,32,116,104,114,111,117,103,104,32,35,32,35,32,102,111,111,116,105,110,103,32,35,32,35,32,99,111,112,101]⟩
theorem zzy:zcn patB 32=[⟨#[108,101,97,115,116]⟩,zy3,⟨#[108,97,112]⟩,zy3,⟨#[114,117,110]⟩,zy3,⟨#[116,104,114,111,117,103,104]⟩,zy3,zy3,⟨#[102,111,111,116,105,110,103]⟩,zy3,zy3,⟨#[99,111,112,101]⟩]:=by decide +kernel
def patC:ByteArray:=⟨#[35,32,35,32,35,32,102,114,105,99,116,105,111,110,32,35,32,35,32,114,111,111,100,32,35]⟩
theorem zzz:zcn patC 32=[zy3,zy3,zy3,⟨#[102,114,105,99,116,105,111,110]⟩,zy3,zy3,⟨#[114,111,111,100]⟩,zy3]:=by decide +kernel
def patD:ByteArray:=⟨#[35,32,35,32,35,32,35]⟩
theorem zzA:zcn patD 32=[zy3,zy3,zy3,zy3]:=by decide +kernel
def kindD (x:ByteArray):Int:=if zbJ (fun y=>x.toList == y.toList) copesW < 0 then 4 else zbJ (fun y=>x.toList == y.toList) copesW
def zzb (x:ByteArray):Int:=if zbJ (fun y=>x.toList == y.toList) (opensW.drop 1) < 0 then 5 else zbJ (fun y=>x.toList == y.toList) (opensW.drop 1)+1
theorem zAY (x:ByteArray) (r:List ByteArray):toO (zfk copesW 0 (x :: r))=if kindD x=4 then none else some (kindD x,r):=by
 unfold zfk kindD
 rw [show zdp (x :: r)=.ok (x,r) from rfl,zak,List.drop_zero]
 have:=findI_lt (fun y=>x.toList == y.toList) copesW
 have h4:(copesW.length:Int)=4:=rfl
 by_cases h:zbJ (fun y=>x.toList == y.toList) copesW < 0
 ·rw [if_pos h,if_pos h,if_pos rfl]; rfl
 ·rw [if_neg h,if_neg h,if_neg (by omega)]
  show some (_+((0:Nat):Int),r)=_
  rw [show zbJ (fun y=>x.toList == y.toList) copesW+((0:Nat):Int)=zbJ (fun y=>x.toList == y.toList) copesW from by omega]
theorem zAZ (x:ByteArray) (r:List ByteArray):toO (zfk opensW 1 (x :: r))=if zzb x=5 then none else some (zzb x,r):=by
 unfold zfk zzb
 rw [show zdp (x :: r)=.ok (x,r) from rfl,zak]
 have:=findI_lt (fun y=>x.toList == y.toList) (opensW.drop 1)
 have h4:((opensW.drop 1).length:Int)=4:=rfl
 by_cases h:zbJ (fun y=>x.toList == y.toList) (opensW.drop 1) < 0
 ·rw [if_pos h,if_pos h,if_pos rfl]; rfl
 ·rw [if_neg h,if_neg h,if_neg (by omega)]; rfl
def zyY (ws:List ByteArray):Option Sht:=
 if ws.length < 2 then none else if zgx (ws.getD 1 default)=true then
  (zyV (zcn patA 32) (ws.drop 2) []).bind fun a=>(toO (zbF [a.1.getD 4 0] a.2)).bind fun h=>
  (zyV (zcn patB 32) h.2 []).bind fun b=>if b.2.length=0 then none else
  (zyV (zcn patC 32) (b.2.drop 1) []).bind fun c=>if c.2.length=0 then(if kindD (b.2.getD 0 default)=4 then none else
   some ⟨ws.getD 1 default,a.1.getD 0 0,a.1.getD 1 0,a.1.getD 2 0,a.1.getD 3 0,h.1,b.1.getD 0 0,b.1.getD 1 0,b.1.getD 2 0,b.1.getD 3 0,b.1.getD 4 0,b.1.getD 5 0,b.1.getD 6 0,kindD (b.2.getD 0 default),
    c.1.getD 0 0,c.1.getD 1 0,c.1.getD 2 0,c.1.getD 3 0,c.1.getD 4 0,c.1.getD 5 0⟩) else none
 else none
theorem zzm:∀ {ws:List ByteArray} {acc:List Int} {x:List Int×List ByteArray},zbF acc ws=.ok x→acc.length≤x.1.length∧x.2.length≤ws.length
 | [],acc,x,h=>by cases h; exact⟨Nat.le_refl _,Nat.le_refl _⟩
 | y :: r,acc,x,h=>by
  rw [zbF] at h
  split at h
  ·cases h; exact⟨Nat.le_refl _,Nat.le_refl _⟩
  ·split at h
   ·have:=zzm h
    simp only [List.length_append,List.length_cons,List.length_nil] at this
    simp only [List.length_cons]
    omega
   ·cases h
def zzh (nm:ByteArray) (a:List Int) (h:List Int×List ByteArray):Option Sht:=
 (zyV (zcn patB 32) h.2 []).bind fun b=>if b.2.length=0 then none else
  (zyV (zcn patC 32) (b.2.drop 1) []).bind fun c=>if c.2.length=0 then(if kindD (b.2.getD 0 default)=4 then none else
   some ⟨nm,a.getD 0 0,a.getD 1 0,a.getD 2 0,a.getD 3 0,h.1,b.1.getD 0 0,b.1.getD 1 0,b.1.getD 2 0,b.1.getD 3 0,b.1.getD 4 0,b.1.getD 5 0,b.1.getD 6 0,kindD (b.2.getD 0 default),
    c.1.getD 0 0,c.1.getD 1 0,c.1.getD 2 0,c.1.getD 3 0,c.1.getD 4 0,c.1.getD 5 0⟩) else none
def zAD (nm:ByteArray) (x1 x2 x3 x4:List Int) (x6:List Int×List ByteArray):Except Int (Sht×List ByteArray):=do
 let x7 ←oneE ⟨#[108,101,97,115,116]⟩ 1 x6.2
 let x8 ←oneE ⟨#[108,97,112]⟩ 1 x7.2
 let x9 ←oneE ⟨#[114,117,110]⟩ 1 x8.2
 let x10 ←oneE ⟨#[116,104,114,111,117,103,104]⟩ 2 x9.2
 let x11 ←oneE ⟨#[102,111,111,116,105,110,103]⟩ 2 x10.2
 let x12 ←sayE ⟨#[99,111,112,101]⟩ x11.2
 let x13 ←zfk copesW 0 x12.2
 let x14 ←zco 3 x13.2
 let x15 ←oneE ⟨#[102,114,105,99,116,105,111,110]⟩ 2 x14.2
 let x16 ←oneE ⟨#[114,111,111,100]⟩ 1 x15.2
 if x6.1.length=0 then .error 4 else
 .ok (⟨nm,x1.getD 0 0,x2.getD 0 0,x3.getD 0 0,x4.getD 0 0,x6.1,x7.1.getD 0 0,x8.1.getD 0 0,x9.1.getD 0 0,x10.1.getD 0 0,(x10.1.drop 1).getD 0 0,x11.1.getD 0 0,(x11.1.drop 1).getD 0 0,x13.1,
  x14.1.getD 0 0,(x14.1.drop 1).getD 0 0,((x14.1.drop 1).drop 1).getD 0 0,x15.1.getD 0 0,(x15.1.drop 1).getD 0 0,x16.1.getD 0 0⟩,x16.2)
def endO (r:Option (Sht×List ByteArray)):Option Sht:=r.bind fun a=>if a.2.length=0 then some a.1 else none
theorem zzf {α β:Type} (o:Option α):(o.bind fun _=>(none:Option β))=none:=by cases o <;> rfl
theorem zy7 {α β:Type} {o:Option α} {f g:α→Option β} (h:∀ x,f x=g x):o.bind f=o.bind g:=by rw [funext h]
theorem zAf {x:ByteArray} (h:(x.toList == wLeast.toList)=true):numW x=false:=by
 have:x=wLeast:=by
  rw [Lib.toList_data,Lib.toList_data,beq_iff_eq] at h
  rw [←zns x,←zns wLeast,h]
 rw [this]; decide +kernel
theorem zzl {α:Type} (o:Option α) (f:α→Option (Sht×List ByteArray)):endO (o.bind f)=o.bind fun x=>endO (f x):=by cases o <;> rfl
theorem zAE {nm:ByteArray} {x1 x2 x3 x4:List Int} {x6:List Int×List ByteArray} (h:x6.1.length=0):toO (zAD nm x1 x2 x3 x4 x6)=none:=by
 unfold zAD
 simp only [zy2,h,if_true,zBi,zzf]
theorem zBg {nm:ByteArray} {a x1 x2 x3 x4:List Int} {x6:List Int×List ByteArray} (h:x6.1.length≠0) (h1:x1.getD 0 0=a.getD 0 0) (h2:x2.getD 0 0=a.getD 1 0) (h3:x3.getD 0 0=a.getD 2 0) (h4:x4.getD 0 0=a.getD 3 0) :
  endO (toO (zAD nm x1 x2 x3 x4 x6))=zzh nm a x6:=by
 unfold zAD zzh
 rw [zzy,zzz]
 simp only [zy2,if_neg h,zAG,oneO,zA4,zAv,zzs,zzr,zzl,Option.bind_assoc,Option.bind_some,h1,h2,h3,h4,
  zyW (u:=⟨#[108,101,97,115,116]⟩) (by decide +kernel),zyW (u:=⟨#[108,97,112]⟩) (by decide +kernel),zyW (u:=⟨#[114,117,110]⟩) (by decide +kernel),zyW (u:=⟨#[116,104,114,111,117,103,104]⟩) (by decide +kernel),
  zyW (u:=⟨#[102,111,111,116,105,110,103]⟩) (by decide +kernel),zyW (u:=⟨#[99,111,112,101]⟩) (by decide +kernel),zyW (u:=⟨#[102,114,105,99,116,105,111,110]⟩) (by decide +kernel),zyW (u:=⟨#[114,111,111,100]⟩) (by decide +kernel),
  List.nil_append,List.cons_append]
 iterate 13 refine zy7 fun _=>?_
 rename_i x12
 obtain⟨_,ws⟩:=x12
 cases ws with
 | nil=>rfl
 | cons x r=>
  simp only [zAY,List.length_cons,Nat.succ_ne_zero,if_false,List.drop_succ_cons,List.drop_zero,List.getD_cons_zero]
  by_cases hk:kindD x=4
  ·simp only [hk,if_true,Option.bind_none,ite_self,zzf]
  ·simp only [hk,if_false,Option.bind_some]
   iterate 8 refine zy7 fun _=>?_
   rfl
theorem zzY (ws:List ByteArray):zci ws=(do
  let x0 ←zes ws
  let x1 ←oneE ⟨#[98,97,115,101]⟩ 1 x0.2
  let x2 ←oneE ⟨#[98,97,116,116,101,114]⟩ 1 x1.2
  let x3 ←oneE ⟨#[104,101,105,103,104,116]⟩ 1 x2.2
  let x4 ←oneE ⟨#[115,107,105,110]⟩ 1 x3.2
  let x5 ←sayE ⟨#[104,101,105,103,104,116,115]⟩ x4.2
  let x6 ←zbF [] x5.2
  zAD x0.1 x1.1 x2.1 x3.1 x4.1 x6):=rfl
theorem zzK {β:Type} {f:List Int×List ByteArray→Option β} {g:Int→List Int×List ByteArray→Option β} (h1:∀ x,x.1.length=0→f x=none) (h2:∀ n x,x.1.length≠0→f x=g n x) (ws:List ByteArray) :
  (toO (zbF [] ws)).bind f=(toO (numE ws)).bind fun y=>(toO (zbF [y.1] y.2)).bind (g y.1):=by
 cases ws with
 | nil=>exact h1 _ rfl
 | cons x r=>
  rw [zbF]
  unfold numE
  rw [show zdp (x :: r)=.ok (x,r) from rfl,zak]
  by_cases hl:(x.toList == wLeast.toList)=true
  ·rw [if_pos hl,if_neg (by rw [zAf hl]; exact Bool.false_ne_true)]
   exact h1 _ rfl
  ·rw [if_neg hl]
   by_cases hn:numW x=true
   ·rw [if_pos hn,if_pos hn]
    show _=(toO (zbF [zdO x] r)).bind (g (zdO x))
    cases hh:zbF ([]++[zdO x]) r with
    | error k=>rw [List.nil_append] at hh; rw [hh]; rfl
    | ok y=>
     have:=zzm hh
     rw [List.nil_append] at hh; rw [hh]
     exact h2 _ y (by simp at this; omega)
   ·rw [if_neg hn,if_neg hn]; rfl
theorem zz3 {ws:List ByteArray} (hp:1≤ws.length):zyY ws=endO (toO (zci (ws.drop 1))):=by
 obtain⟨w0,rest,rfl⟩:∃ a r,ws=a :: r:=by cases ws with
  | nil=>simp at hp
  | cons a r=>exact⟨a,r,rfl⟩
 rw [show(w0 :: rest).drop 1=rest from rfl,zzY]
 cases rest with
 | nil=>rfl
 | cons x r=>
  show(if (w0 :: x :: r).length < 2 then none else if zgx x=true then(zyV (zcn patA 32) r []).bind fun a=>(toO (zbF [a.1.getD 4 0] a.2)).bind fun h=>zzh x a.1 h else none)=_
  rw [if_neg (by simp),zy2,zzl]
  unfold zes
  rw [show zdp (x :: r)=.ok (x,r) from rfl,zak]
  by_cases hn:zgx x=true
  ·rw [if_pos hn,if_pos hn,zzx]
   simp only [zy2,zAG,oneO,zA4,zAv,zzs,zzr,zzl,Option.bind_assoc,Option.bind_some,
    zyW (u:=⟨#[98,97,115,101]⟩) (by decide +kernel),zyW (u:=⟨#[98,97,116,116,101,114]⟩) (by decide +kernel),zyW (u:=⟨#[104,101,105,103,104,116]⟩) (by decide +kernel),zyW (u:=⟨#[115,107,105,110]⟩) (by decide +kernel),zyW (u:=⟨#[104,101,105,103,104,116,115]⟩) (by decide +kernel),
    List.nil_append,List.cons_append]
   iterate 9 refine zy7 fun _=>?_
   simp only [List.getD_cons_succ,List.getD_cons_zero]
   rename_i a1 _ a2 _ a3 _ a4 _
   refine(zzK (g:=fun n h=>zzh x [a1.1,a2.1,a3.1,a4.1,n] h) ?_ ?_ _).symm
   ·intro y hy
    rw [zAE hy]; rfl
   ·intro n y hy
    exact zBg hy rfl rfl rfl rfl
  ·rw [if_neg hn,if_neg hn]; rfl
end Go.Pln