/- What the proof of the root text leans on, part 6: the layer, plain facts and walks. No statement of the seat is proved in this text. -/
import Derived.Shelf.SlSortCmp.NoneTotal
import Derived.Test.YtdcfcfhmkfkgmaaGreatDoorProg
import Derived.Test.YtdcfcfhmkfkgmaaGreatDoorPc5
namespace Go.Proofs.YtdcfcfhmkfkgmaaGreatDoor
open Go.K Go.Stn Go.Pln Go.RowKit
theorem en43:En Tryz.prog 43:=en_of Tryz.func43 (by kernel_rfl) (by kernel_rfl)
theorem en44:En Tryz.prog 44:=en_of Tryz.func44 (by kernel_rfl) (by kernel_rfl)
theorem map_take {α β:Type} [Inhabited α] (f:α→β) {l:List α} {m:List α} {i:Int} {x:α} (h0:0≤i) (h:i < (l.length:Int)) (hm:m.map f=(l.take i.toNat).map f) (hx:f x=f (l.getD i.toNat default)):(m++[x]).map f=(l.take (i+1).toNat).map f:=by
 rw [List.map_append,hm,show(i+1).toNat=i.toNat+1 from by omega,List.take_add_one,List.getElem?_eq_getElem (by omega),List.map_append]
 congr 1
 show [f x]=[f l[i.toNat]]
 rw [hx,List.getD_eq_getElem?_getD,List.getElem?_eq_getElem (by omega)]; rfl
set_option maxRecDepth 100000 in
set_option maxHeartbeats 16000000 in
theorem lplan_c (a:Option Addr) (cap:Nat) (S:List ShC) (b:Option Addr) (bcap:Nat) (V:List WlC) (w:World) (hl:Has w (Elems a 20 encSht S)) (hs:Small S.length) (hlw:Has w (Elems b 4 encWll V)) (hsw:Small V.length) (hsh:∀ z∈S,Has w (Ints z.a z.s.heights)) (hss:∀ z∈S,Small z.s.heights.length) (hwo:∀ z∈V,Has w (Elems z.a 5 encOpn z.s.opens)) (hsv:∀ z∈V,Small z.s.opens.length) (hsl:S.length≤1000000) (hvl:V.length≤1000000) :
  Calls Tryz.prog 14 #[.agg #[.slice a S.length cap,.slice b V.length bcap]] w (Gives (fun z:(Option Addr×Nat×List ShC)×(Option Addr×Nat×List WlC)=>.agg #[.slice z.1.1 z.1.2.2.length z.1.2.1,.slice z.2.1 z.2.2.2.length z.2.2.1]) (fun z=>PlR yP z ⟨S.map (·.s),V.map (·.s)⟩) w):=by
 refine calls_of_gk (vs:=[_]) Tryz.func14 rfl rfl (Nat.le_of_ble_eq_true rfl) ?_
 refine gk_seq ?_
 refine gk_region ?_
 refine gk_yx rfl rfl (yx_box (vs:=[_,_]) rfl rfl) fun b1=>?_
 refine gk_yx rfl rfl (yx_alloc tf31 (zs:=[_,_]) rfl) fun b2=>?_
 refine gk_nil (gk_sub (T':=[(1,_),(2,_)]) ⟨rfl,rfl,trivial⟩ ?_)
 refine gk_seq ?_
 refine gk_region ?_
 refine gk_yx rfl rfl (yx_alloc tf31 (zs:=[_,_]) rfl) fun b3=>?_
 refine gk_nil (gk_sub (T':=[(1,_),(2,_),(3,_)]) ⟨rfl,rfl,rfl,trivial⟩ ?_)
 refine gk_seq ?_
 refine gk_seq ?_
 refine gk_region ?_
 refine gk_y rfl rfl (y_assign rfl) ?_
 refine gk_nil (gk_sub (T':=[(1,_),(2,_),(3,_),(4,_)]) ⟨rfl,rfl,rfl,rfl,trivial⟩ ?_)
 refine gk_block ?_
 refine gk_newNil 41 encSht 20 ?_
 refine gk_newRows (rowH 3) ?_
 refine gk_loop (X:=Int×Option Addr×Nat×List ShC) (fun⟨i,ra,rc,S2⟩=>[(1,.pointer (some ⟨b1,0,none⟩)),(2,.pointer (some ⟨b2,0,none⟩)),(3,.pointer (some ⟨b3,0,none⟩)),(4,.int .i64 i)]) (fun⟨i,ra,rc,S2⟩=>[Go.K.Rows (rowH 3) S2,Row ra 20 rc 41 encSht S2,Box b3 [.slice ra S2.length rc,.slice none 0 0] 31,Box b2 [.slice none 0 0,.slice none 0 0] 31,Box b1 [.slice a S.length cap,.slice b V.length bcap] 25]) (fun⟨i,ra,rc,S2⟩=>(0≤i∧i≤S.length∧S2.map (·.s)=(S.take i.toNat).map (·.s))) (fun⟨i,ra,rc,S2⟩=>(S.length - i).toNat) (0,none,0,[]) ⟨rfl,rfl,rfl,rfl,trivial⟩ rfl ?_ ?_
 ·exact⟨by omega,by omega,rfl⟩
 ·rintro ⟨i,ra,rc,S2⟩ hI
  obtain⟨g0,g1,g2⟩:=hI
  have hml:S2.length≤S.length:=by have:=congrArg List.length g2; rw [List.length_map,List.length_map,List.length_take] at this; omega
  refine gk_seq ?_
  refine gk_seq ?_
  refine gk_region ?_
  refine gk_y rfl rfl (y_move rfl) ?_
  refine gk_y rfl rfl (y_fieldAddr fo25_0 rfl) ?_
  refine gk_y rfl rfl (y_loadB1 4 tf22 rfl rfl rfl) ?_
  refine gk_y rfl rfl (y_lenS (Tryz.underlying22) rfl) ?_
  refine gk_y rfl rfl (y_lss rfl rfl) ?_
  refine gk_nil (gk_sub (T':=[(1,_),(2,_),(3,_),(4,_),(10,_)]) ⟨rfl,rfl,rfl,rfl,rfl,trivial⟩ ?_)
  refine gk_cond rfl (fun hc10=>?_) (fun hc10=>?_)
  ·have hc10:=of_decide_eq_true hc10
   refine gk_skip ?_
   refine gk_seq ?_
   refine gk_block ?_
   refine gk_any3 (ch [(7,(Option Addr×Nat)),(8,Nat)]) 9 [0,1,0,4,0,28,60,124,252,511,1023,2047] (fun _=>mixed) (by kernel_rfl) (ch_ne _ ⟨inferInstance,inferInstance,trivial⟩) ?_
   refine ph3_y (fun ρ=>y_fieldAddr fo31_0 rfl) (fun ρ ρ' h=>by rfl) ?_
   refine ph3_y (fun ρ=>y_loadB1 2 tf28 rfl rfl rfl) (fun ρ ρ' h=>by rfl) ?_
   refine ph3_y (fun ρ=>y_fieldAddr fo25_0 rfl) (fun ρ ρ' h=>by rfl) ?_
   refine ph3_y (fun ρ=>y_loadB1 4 tf22 rfl rfl rfl) (fun ρ ρ' h=>by rfl) ?_
   refine ph3_y (fun ρ=>y_move rfl) (fun ρ ρ' h=>by rfl) ?_
   refine ph3_y (fun ρ=>y_indexE se22 rfl rfl (fun _ hw=>(Rd.has (Has.rd hl) hw)) (by omega) (by omega)) (fun ρ ρ' h=>by rfl) ?_
   refine ph3_y (fun ρ=>y_loadE (vs:=[_,_,_,_,_,_,_,_,_,_,_,_,_,_,_,_,_,_,_,_]) tf37 rfl (fun _ hw=>(Rd.has (Has.rd hl) hw)) (by omega) (by omega) rfl) (fun ρ ρ' h=>by rfl) ?_
   refine ph3_yx (fun ρ=>yx_call en43 rfl (fun w hw=>lsheet_c ((S.getD (i).toNat default).s) _ _ w (Rd.has (Has.rd (hsh _ (getD_memS (by omega)))) hw) (hss _ (getD_memS (by omega))))) (fun ρ ρ' h=>⟨by rfl,by rfl⟩) ?_
   refine ph3_yx (fun ρ=>yx_buildSlice rfl (bs28_1 (⟨(S.getD (i).toNat default).s,(ρ 7).1,(ρ 7).2⟩:ShC)) encSht_ok rfl) (fun ρ ρ' h=>⟨by(first | rfl | (simp only [h 7 rfl]; done) | (simp only [h 7 rfl]; rfl)),by(first | rfl | (simp only [h 7 rfl]; done) | (simp only [h 7 rfl]; rfl))⟩) ?_
   refine fun ρ=>gk_name (X:=(Option Addr×Nat)×Nat) (ρ 7,ρ 8) (fun⟨p20,b21⟩=>[(1,.pointer (some ⟨b1,0,none⟩)),(2,.pointer (some ⟨b2,0,none⟩)),(3,.pointer (some ⟨b3,0,none⟩)),(4,.int .i64 i),(14,.slice ra S2.length rc),(21,.slice (some ⟨b21,0,none⟩) 1 1)]) (fun⟨p20,b21⟩=>[Row (some ⟨b21,0,none⟩) 20 1 41 encSht [(⟨(S.getD (i).toNat default).s,p20.1,p20.2⟩:ShC)],Row p20.1 1 p20.2 3 Go.Stn.encI (S.getD (i).toNat default).s.heights,Go.K.Rows (rowH 3) S2,Row ra 20 rc 41 encSht S2,Box b3 [.slice ra S2.length rc,.slice none 0 0] 31,Box b2 [.slice none 0 0,.slice none 0 0] 31,Box b1 [.slice a S.length cap,.slice b V.length bcap] 25]) ⟨rfl,rfl,rfl,rfl,rfl,rfl,trivial⟩ rfl ?_
   rintro ⟨p20,b21⟩
   refine gk_append (m:=[(⟨(S.getD (i).toNat default).s,p20.1,p20.2⟩:ShC)]) 3 af28 encSht_ok rfl rfl rfl rfl (fun _ hw=>(has_row encSht_ok (hw.has (p:=0) rfl))) (by first | omega | (simp only [List.length_cons,List.length_nil]; omega)) (by first | (unfold maxLen; omega) | (simp only [List.length_cons,List.length_nil,maxLen]; omega)) fun a22 c22=>?_
   refine gk_y rfl rfl (y_fieldAddr fo31_0 rfl) ?_
   refine gk_storeV 4 tf28 rfl rfl (vs:=[_]) rfl rfl rfl rfl rfl ?_
   refine gk_nil (gk_sub (T':=[(1,_),(2,_),(3,_),(4,_)]) ⟨rfl,rfl,rfl,rfl,trivial⟩ ?_)
   refine gk_front 1 rfl ?_
   refine gk_front 2 rfl ?_
   refine gk_pack 2 ?_
   refine gk_conv (R':=Go.K.Rows (rowH 3) (S2++[(⟨(S.getD i.toNat default).s,p20.1,p20.2⟩:ShC)])) 0 rfl (fun B w hA=>rows_snoc (f:=rowH 3) hA) ?_
   refine gk_region ?_
   refine gk_y rfl rfl (y_move rfl) ?_
   refine gk_y rfl rfl (y_addI rfl rfl (by omega) (by omega)) ?_
   refine gk_y rfl rfl (y_assign rfl) ?_
   refine gk_nil (gk_sub (T':=[(1,_),(2,_),(3,_),(4,_)]) ⟨rfl,rfl,rfl,rfl,trivial⟩ ?_)
   refine gk_dropAt 1 rfl ?_
   exact gk_next (i+1,_,_,_) ⟨rfl,rfl,rfl,rfl,trivial⟩ rfl ⟨by omega,by omega,map_take _ g0 hc10 g2 rfl⟩ (by simp only []; omega)
  ·have hc10:=of_decide_eq_false hc10
   have hS2:S2.map (·.s)=S.map (·.s):=by rw [g2,List.take_of_length_le (by omega)]
   clear g0 g1 g2 hml
   refine gk_exit rfl ?_
   refine gk_seq ?_
   refine gk_seq ?_
   refine gk_region ?_
   refine gk_y rfl rfl (y_assign rfl) ?_
   refine gk_nil (gk_sub (T':=[(1,_),(2,_),(3,_),(5,_)]) ⟨rfl,rfl,rfl,rfl,trivial⟩ ?_)
   refine gk_block ?_
   refine gk_newNil 94 encWll 4 ?_
   refine gk_newRows (rowO 98) ?_
   refine gk_loop (X:=Int×Option Addr×Nat×List WlC) (fun⟨i,rb,rd,V2⟩=>[(1,.pointer (some ⟨b1,0,none⟩)),(2,.pointer (some ⟨b2,0,none⟩)),(3,.pointer (some ⟨b3,0,none⟩)),(5,.int .i64 i)]) (fun⟨i,rb,rd,V2⟩=>[Go.K.Rows (rowO 98) V2,Row rb 4 rd 94 encWll V2,Go.K.Rows (rowH 3) S2,Row ra 20 rc 41 encSht S2,Box b3 [.slice ra S2.length rc,.slice rb V2.length rd] 31,Box b2 [.slice none 0 0,.slice none 0 0] 31,Box b1 [.slice a S.length cap,.slice b V.length bcap] 25]) (fun⟨i,rb,rd,V2⟩=>(0≤i∧i≤V.length∧V2.map (·.s)=(V.take i.toNat).map (·.s))) (fun⟨i,rb,rd,V2⟩=>(V.length - i).toNat) (0,none,0,[]) ⟨rfl,rfl,rfl,rfl,trivial⟩ rfl ?_ ?_
   ·exact⟨by omega,by omega,rfl⟩
   ·rintro ⟨i,rb,rd,V2⟩ hI
    obtain⟨g0,g1,g2⟩:=hI
    have hml:V2.length≤V.length:=by have:=congrArg List.length g2; rw [List.length_map,List.length_map,List.length_take] at this; omega
    refine gk_seq ?_
    refine gk_seq ?_
    refine gk_region ?_
    refine gk_y rfl rfl (y_move rfl) ?_
    refine gk_y rfl rfl (y_fieldAddr fo25_1 rfl) ?_
    refine gk_y rfl rfl (y_loadB1 6 tf23 rfl rfl rfl) ?_
    refine gk_y rfl rfl (y_lenS (Tryz.underlying23) rfl) ?_
    refine gk_y rfl rfl (y_lss rfl rfl) ?_
    refine gk_nil (gk_sub (T':=[(1,_),(2,_),(3,_),(5,_),(28,_)]) ⟨rfl,rfl,rfl,rfl,rfl,trivial⟩ ?_)
    refine gk_cond rfl (fun hc28=>?_) (fun hc28=>?_)
    ·have hc28:=of_decide_eq_true hc28
     refine gk_skip ?_
     refine gk_seq ?_
     refine gk_block ?_
     refine gk_any3 (ch [(7,(Option Addr×Nat)),(8,Nat)]) 9 [0,1,0,4,0,28,60,124,252,511,1023,2047] (fun _=>mixed) (by kernel_rfl) (ch_ne _ ⟨inferInstance,inferInstance,trivial⟩) ?_
     refine ph3_y (fun ρ=>y_fieldAddr fo31_1 rfl) (fun ρ ρ' h=>by rfl) ?_
     refine ph3_y (fun ρ=>y_loadB1 4 tf29 rfl rfl rfl) (fun ρ ρ' h=>by rfl) ?_
     refine ph3_y (fun ρ=>y_fieldAddr fo25_1 rfl) (fun ρ ρ' h=>by rfl) ?_
     refine ph3_y (fun ρ=>y_loadB1 6 tf23 rfl rfl rfl) (fun ρ ρ' h=>by rfl) ?_
     refine ph3_y (fun ρ=>y_move rfl) (fun ρ ρ' h=>by rfl) ?_
     refine ph3_y (fun ρ=>y_indexE se23 rfl rfl (fun _ hw=>(Rd.has (Has.rd hlw) hw)) (by omega) (by omega)) (fun ρ ρ' h=>by rfl) ?_
     refine ph3_y (fun ρ=>y_loadE (vs:=[_,_,_,_]) tf65 rfl (fun _ hw=>(Rd.has (Has.rd hlw) hw)) (by omega) (by omega) rfl) (fun ρ ρ' h=>by rfl) ?_
     refine ph3_yx (fun ρ=>yx_call en44 rfl (fun w hw=>lwall_c ((V.getD (i).toNat default).s) _ _ w (Rd.has (Has.rd (hwo _ (getD_memS (by omega)))) hw) (hsv _ (getD_memS (by omega))))) (fun ρ ρ' h=>⟨by rfl,by rfl⟩) ?_
     refine ph3_yx (fun ρ=>yx_buildSlice rfl (bs29_1 (⟨(V.getD (i).toNat default).s,(ρ 7).1,(ρ 7).2⟩:WlC)) encWll_ok rfl) (fun ρ ρ' h=>⟨by(first | rfl | (simp only [h 7 rfl]; done) | (simp only [h 7 rfl]; rfl)),by(first | rfl | (simp only [h 7 rfl]; done) | (simp only [h 7 rfl]; rfl))⟩) ?_
     refine fun ρ=>gk_name (X:=(Option Addr×Nat)×Nat) (ρ 7,ρ 8) (fun⟨p38,b39⟩=>[(1,.pointer (some ⟨b1,0,none⟩)),(2,.pointer (some ⟨b2,0,none⟩)),(3,.pointer (some ⟨b3,0,none⟩)),(5,.int .i64 i),(32,.slice rb V2.length rd),(39,.slice (some ⟨b39,0,none⟩) 1 1)]) (fun⟨p38,b39⟩=>[Row (some ⟨b39,0,none⟩) 4 1 94 encWll [(⟨(V.getD (i).toNat default).s,p38.1,p38.2⟩:WlC)],Row p38.1 5 p38.2 98 encOpn (V.getD (i).toNat default).s.opens,Go.K.Rows (rowO 98) V2,Row rb 4 rd 94 encWll V2,Go.K.Rows (rowH 3) S2,Row ra 20 rc 41 encSht S2,Box b3 [.slice ra S2.length rc,.slice rb V2.length rd] 31,Box b2 [.slice none 0 0,.slice none 0 0] 31,Box b1 [.slice a S.length cap,.slice b V.length bcap] 25]) ⟨rfl,rfl,rfl,rfl,rfl,rfl,trivial⟩ rfl ?_
     rintro ⟨p38,b39⟩
     refine gk_append (m:=[(⟨(V.getD (i).toNat default).s,p38.1,p38.2⟩:WlC)]) 3 af29 encWll_ok rfl rfl rfl rfl (fun _ hw=>(has_row encWll_ok (hw.has (p:=0) rfl))) (by first | omega | (simp only [List.length_cons,List.length_nil]; omega)) (by first | (unfold maxLen; omega) | (simp only [List.length_cons,List.length_nil,maxLen]; omega)) fun a40 c40=>?_
     refine gk_y rfl rfl (y_fieldAddr fo31_1 rfl) ?_
     refine gk_storeV 6 tf29 rfl rfl (vs:=[_]) rfl rfl rfl rfl rfl ?_
     refine gk_nil (gk_sub (T':=[(1,_),(2,_),(3,_),(5,_)]) ⟨rfl,rfl,rfl,rfl,trivial⟩ ?_)
     refine gk_front 1 rfl ?_
     refine gk_front 2 rfl ?_
     refine gk_pack 2 ?_
     refine gk_conv (R':=Go.K.Rows (rowO 98) (V2++[(⟨(V.getD i.toNat default).s,p38.1,p38.2⟩:WlC)])) 0 rfl (fun B w hA=>rows_snoc (f:=rowO 98) hA) ?_
     refine gk_region ?_
     refine gk_y rfl rfl (y_move rfl) ?_
     refine gk_y rfl rfl (y_addI rfl rfl (by omega) (by omega)) ?_
     refine gk_y rfl rfl (y_assign rfl) ?_
     refine gk_nil (gk_sub (T':=[(1,_),(2,_),(3,_),(5,_)]) ⟨rfl,rfl,rfl,rfl,trivial⟩ ?_)
     refine gk_dropAt 1 rfl ?_
     exact gk_next (i+1,_,_,_) ⟨rfl,rfl,rfl,rfl,trivial⟩ rfl ⟨by omega,by omega,map_take _ g0 hc28 g2 rfl⟩ (by simp only []; omega)
    ·have hc28:=of_decide_eq_false hc28
     have hV2:V2.map (·.s)=V.map (·.s):=by rw [g2,List.take_of_length_le (by omega)]
     refine gk_exit rfl ?_
     refine gk_seq ?_
     refine gk_region ?_
     refine gk_y rfl rfl (y_loadBA 4 tf31 rfl rfl (vs:=[_,_]) rfl rfl) ?_
     refine gk_storeV 5 tf31 rfl rfl (vs:=[_,_]) rfl rfl rfl rfl rfl ?_
     refine gk_nil (gk_sub (T':=[(2,_)]) ⟨rfl,trivial⟩ ?_)
     refine gk_front 1 rfl ?_
     refine gk_front 2 rfl ?_
     refine gk_front 3 rfl ?_
     refine gk_pack 4 ?_
     refine gk_conv (R':=PlR yP ((ra,rc,S2),(rb,rd,V2)) ⟨S.map (·.s),V.map (·.s)⟩) 0 rfl (fun B w hA=>⟨hS2,hV2,hA⟩) ?_
     refine gk_ret ?_
     refine gk_gives ((ra,rc,S2),(rb,rd,V2)) 0 (rv_one rfl (r1_cellA (i:=2) (vs:=[_,_]) tf31 rfl rfl rfl rfl)) ?_ rfl
     rfl
end Go.Proofs.YtdcfcfhmkfkgmaaGreatDoor
namespace Go.K
open Go Go.RowKit
section
variable {α:Type} [Inhabited α] {k:Nat} {enc:α→List Value}
open Go.Proofs in
theorem sort_permM {P:Program} {ρ:Go.Shelf.Ren} (L:SlLaysF0.n6 P ρ) (aE:∀ w,(isAgg (ρ.t 24)).run P w=.ok true w) (zE:∀ w,(Go.sizeOf (ρ.t 24)).run P w=.ok k w) (he:Enc k enc) (hk:0 < k) (h1:∀ x,∀ v∈enc x,v.oneCell' = true)
  (cf:α→α→Int) (hO:Go.Sort.SWO (ltOf cf)) (g:Nat) (cb:List Value) (eg:En P g)
  {a:Option Addr} {cap:Nat} {e:TypeId} {l:List α} {w:World} {B:Nat→Prop} (hc:∀ x y w',Mod B w w'→Calls P g (#[.agg (enc x).toArray,.agg (enc y).toArray]++cb.toArray) w' (Pure (.int .i64 (cf x y)) w'))
  (hB:∀ i,B i→i < w.heap.size) (hA:(Row a k cap e enc l).A B w) (hs:l.length < 4611686018427387904) :
  Calls P (ρ.f 6) #[.slice a l.length cap,.func (.func g) #[] cb.toArray] w (Turns (fun _:List α=>.tuple #[]) (fun m=>Row a k cap e enc m) (fun m=>m.Perm l∧m.Pairwise fun x y=>ltOf cf y x=false) B w):=by
 rcases hA with ⟨rfl,rfl,rfl⟩ | ⟨b,off,cs,ha,hBb,hb,g1,g2,g3⟩
 ·refine(AnyF.slices_SortFunc_none L none 0 (.func (.func g) #[] cb.toArray) w).mono ?_
  rintro _ _ ⟨rfl,rfl⟩
  exact⟨[],B,rfl,⟨List.Perm.refl _,List.Pairwise.nil⟩,Mod.rfl,fun _ hk=>.inl hk,.inl ⟨rfl,rfl,rfl⟩⟩
 ·have hbl:b < w.heap.size:=hB b ((hBb b).2 rfl)
  have hcmp:CmpLays P g cb.toArray enc k cf b off l.toArray.size w:=fun m os dk hdk x y=>by
   have hm:=(row_sorted (n:=m) (os:=os) he hk (m:=dk.toList) (l:=l) (by simpa using hdk) hB ha hBb hb g1 g2).1
   rw [Array.toArray_toList] at hm
   refine(hc x y (Go.Proofs.sortWorldK enc k w b off m dk os) hm).mono ?_
   rintro _ w' ⟨rfl,hx⟩
   exact⟨rfl,hx.grown⟩
  have h:=AnyQ.slices_SortFunc L k aE zE enc he.len h1 cf hO g cb.toArray b off cap l.toArray w eg hcmp (holds_row he hk hb g3) hbl (by simpa using hs)
  subst ha
  refine h.mono ?_
  rintro _ _ ⟨rfl,d',n,os,⟨hsz,_,hperm⟩,hso,rfl⟩
  have hsz':d'.size=l.length:=by simpa using hsz
  have e1:d'.extract 0 l.toArray.size=d':=by rw [←hsz]; exact Array.extract_size
  rw [e1,Array.extract_size] at hperm
  obtain⟨q1,q2⟩:=row_sorted (n:=n) (os:=os) he hk (m:=d'.toList) (l:=l) (by simpa using hsz') hB rfl hBb hb g1 g2
  rw [Array.toArray_toList] at q1 q2
  refine⟨d'.toList,B,rfl,⟨by simpa using hperm,?_⟩,q1,fun _ hk=>.inl hk,q2⟩
  rw [List.pairwise_iff_getElem]
  intro i j hi hj hij
  have hi':i < d'.size:=by simpa using hi
  have hj':j < d'.size:=by simpa using hj
  have:=hso i j (Nat.zero_le _) hij (by simpa using (by omega:j < l.length))
  rw [getElem!_pos d' j hj',getElem!_pos d' i hi'] at this
  simpa using this
end
end Go.K
namespace Go.Pln
open Go Go.K Go.RowKit Go.Stn
def freeB (l:List Opn) (x:Int):Bool:=l.all fun o=>!(decide (o.at_≤x)&&decide (x < o.at_+o.width))
theorem freeB_iff {l:List Opn} {x:Int}:freeB l x=true↔∀ o∈l,¬ (o.at_≤x∧x < o.at_+o.width):=by
 unfold freeB
 rw [List.all_eq_true]
 have key:∀ o:Opn,(!(decide (o.at_≤x)&&decide (x < o.at_+o.width)))=true↔¬ (o.at_≤x∧x < o.at_+o.width):=fun o=>by
  rw [Bool.not_eq_true',Bool.and_eq_false_iff,decide_eq_false_iff_not,decide_eq_false_iff_not]
  omega
 exact⟨fun h o ho=>(key o).1 (h o ho),fun h o ho=>(key o).2 (h o ho)⟩
theorem freeB_no {l:List Opn} {x:Int} {o:Opn} (ho:o∈l) (h:o.at_≤x∧x < o.at_+o.width):freeB l x=false:=by
 cases e:freeB l x with
 | false=>rfl
 | true=>exact absurd h (freeB_iff.1 e o ho)
theorem freeB_perm {l m:List Opn} (h:l.Perm m):freeB l=freeB m:=by
 funext x
 rw [Bool.eq_iff_iff,freeB_iff,freeB_iff]
 exact⟨fun g o ho=>g o (h.mem_iff.2 ho),fun g o ho=>g o (h.mem_iff.1 ho)⟩
def Runs (f:Int→Bool) (hi:Int):Int→List Crs→Prop
 | lo,[]=>∀ x,lo≤x→x < hi→f x=false
 | lo,c :: r=>lo≤c.frm∧c.frm < c.to∧c.to≤hi∧(∀ x,lo≤x→x < c.frm→f x=false)∧(∀ x,c.frm≤x→x < c.to→f x=true)∧(c.to=hi∨f c.to=false)∧Runs f hi c.to r
theorem runs_unique {f:Int→Bool} {hi:Int}:∀ {lo:Int} {m n:List Crs},Runs f hi lo m→Runs f hi lo n→m=n
 | _,[],[],_,_=>rfl
 | _,[],c :: r,h,⟨a,b,d,_,e,_⟩=>by
  have:=h c.frm a (by omega)
  rw [e c.frm (Int.le_refl _) b] at this; cases this
 | _,c :: r,[],⟨a,b,d,_,e,_⟩,h=>by
  have:=h c.frm a (by omega)
  rw [e c.frm (Int.le_refl _) b] at this; cases this
 | _,c :: r,d :: s,⟨a1,a2,a3,a4,a5,a6,a7⟩,⟨b1,b2,b3,b4,b5,b6,b7⟩=>by
  have h1:c.frm=d.frm:=by
   rcases Int.lt_trichotomy c.frm d.frm with h | h | h
   ·have:=a5 c.frm (Int.le_refl _) a2
    rw [b4 c.frm a1 h] at this; cases this
   ·exact h
   ·have:=b5 d.frm (Int.le_refl _) b2
    rw [a4 d.frm b1 h] at this; cases this
  have h2:c.to=d.to:=by
   rcases Int.lt_trichotomy c.to d.to with h | h | h
   ·rcases a6 with e | e
    ·omega
    ·have:=b5 c.to (by omega) h
     rw [e] at this; cases this
   ·exact h
   ·rcases b6 with e | e
    ·omega
    ·have:=a5 d.to (by omega) h
     rw [e] at this; cases this
  obtain⟨cf,ct⟩:=c
  obtain⟨df,dt⟩:=d
  simp only at h1 h2
  subst h1 h2
  rw [runs_unique a7 b7]
theorem runs_mem {f:Int→Bool} {hi:Int}:∀ {lo:Int} {m:List Crs},Runs f hi lo m→∀ c∈m,lo≤c.frm∧c.frm < c.to∧c.to≤hi∧∀ x,c.frm≤x→x < c.to→f x=true
 | _,[],_,_,h=>by cases h
 | _,c :: r,⟨a1,a2,a3,_,a5,_,a7⟩,d,h=>by
  rcases List.mem_cons.1 h with rfl | h'
  ·exact⟨a1,a2,a3,a5⟩
  ·obtain⟨b1,b2,b3,b4⟩:=runs_mem a7 d h'
   exact⟨by omega,b2,b3,b4⟩
theorem runs_more {f:Int→Bool} {a b:Int} (hab:a≤b) (hn:∀ x,a≤x→x < b→f x=false):∀ {lo:Int} {m:List Crs},Runs f a lo m→Runs f b lo m
 | _,[],h=>fun x h1 h2=>by
  rcases Int.lt_or_le x a with g | g
  ·exact h x h1 g
  ·exact hn x g h2
 | _,c :: r,⟨a1,a2,a3,a4,a5,a6,a7⟩=>⟨a1,a2,by omega,a4,a5,by
   rcases a6 with e | e
   ·rcases Int.lt_or_le a b with g | g
    ·exact .inr (hn _ (by omega) (by omega))
    ·exact .inl (by omega)
   ·exact .inr e,runs_more hab hn a7⟩
theorem runs_add {f:Int→Bool} {a b:Int} (hab:a < b) (hf:∀ x,a≤x→x < b→f x=true):∀ {lo:Int} {m:List Crs},lo≤a→(∀ c∈m,c.to < a)→Runs f a lo m→Runs f b lo (m++[⟨a,b⟩])
 | _,[],hlo,_,h=>⟨hlo,hab,Int.le_refl _,h,hf,.inl rfl,fun x h1 h2=>by simp only at h1; omega⟩
 | _,c :: r,_,hl,⟨a1,a2,a3,a4,a5,a6,a7⟩=>⟨a1,a2,by omega,a4,a5,by
   rcases a6 with e | e
   ·have:=hl c (List.mem_cons_self ..); omega
   ·exact .inr e,runs_add hab hf a3 (fun d hd=>hl d (List.mem_cons_of_mem _ hd)) a7⟩
theorem runs_grow {f:Int→Bool} {a p:Int} (hf:f a=true):∀ {lo:Int} {m:List Crs},Runs f a lo (m++[⟨p,a⟩])→Runs f (a+1) lo (m++[⟨p,a+1⟩])
 | _,[],⟨a1,a2,a3,a4,a5,a6,a7⟩=>⟨a1,by simp only at *; omega,Int.le_refl _,a4,fun x h1 h2=>by
   simp only at *
   rcases Int.lt_or_le x a with g | g
   ·exact a5 x h1 g
   ·rw [show x=a from by omega]; exact hf,.inl rfl,fun x h1 h2=>by simp only at h1; omega⟩
 | _,c :: r,⟨a1,a2,a3,a4,a5,a6,a7⟩=>⟨a1,a2,by omega,a4,a5,by
   rcases a6 with e | e
   ·have:=(runs_mem a7 ⟨p,a⟩ (List.mem_append.2 (.inr (List.mem_cons_self ..))))
    simp only at this; omega
   ·exact .inr e,runs_grow hf a7⟩
theorem runs_one {f:Int→Bool} {hi:Int} (h:0 < hi) (hf:∀ x,0≤x→x < hi→f x=true):Runs f hi 0 [⟨0,hi⟩]:=
 ⟨Int.le_refl _,h,Int.le_refl _,fun x h1 h2=>by simp only at h2; omega,hf,.inl rfl,fun x h1 h2=>by simp only at h1; omega⟩
def bayS (f:Int→Bool) (m:List Crs) (x:Int):List Crs:=
 if f x=true then(if 0 < m.length∧(m.getD (m.length - 1) default).to=x then m.set (m.length - 1) ⟨(m.getD (m.length - 1) default).frm,x+1⟩ else m++[⟨x,x+1⟩]) else m
def bayN (f:Int→Bool):Nat→List Crs
 | 0=>[]
 | n+1=>bayS f (bayN f n) n
theorem last_eq {α:Type} [Inhabited α] {m:List α} (h:0 < m.length):m=m.take (m.length - 1)++[m.getD (m.length - 1) default]:=by
 rw [List.getD_eq_getElem?_getD,List.getElem?_eq_getElem (by omega),Option.getD_some]
 conv=>lhs; rw [←List.take_append_drop (m.length - 1) m]
 rw [List.drop_eq_getElem_cons (by omega),List.drop_of_length_le (by omega)]
theorem last_set {α:Type} [Inhabited α] {m:List α} {z:α} (h:0 < m.length):m.set (m.length - 1) z=m.take (m.length - 1)++[z]:=by
 rw [List.set_eq_take_append_cons_drop,if_pos (by omega),List.drop_of_length_le (by omega)]
theorem bayS_runs {f:Int→Bool} {m:List Crs} {x:Int} (h0:0≤x) (h:Runs f x 0 m):Runs f (x+1) 0 (bayS f m x):=by
 unfold bayS
 by_cases hf:f x=true
 ·rw [if_pos hf]
  by_cases hl:0 < m.length∧(m.getD (m.length - 1) default).to=x
  ·rw [if_pos hl,last_set hl.1]
   have h2:=h
   rw [last_eq hl.1] at h2
   have e:m.getD (m.length - 1) default=⟨(m.getD (m.length - 1) default).frm,x⟩:=by
    rw [←hl.2]
   rw [e] at h2
   exact runs_grow hf h2
  ·rw [if_neg hl]
   refine runs_add (by omega) (fun y h1 h2=>by rw [show y=x from by omega]; exact hf) h0 (fun c hc=>?_) h
   obtain⟨i,hi,rfl⟩:=List.getElem_of_mem hc
   have h1:=(runs_mem h _ hc).2.2.1
   rcases Int.lt_or_eq_of_le h1 with g | g
   ·exact g
   ·exfalso
    have hlast:i=m.length - 1:=by
     rcases Nat.lt_or_ge i (m.length - 1) with hi' | hi'
     ·exfalso
      have key:∀ {lo:Int} {m:List Crs} {i:Nat} (hi:i < m.length),Runs f x lo m→i+1 < m.length→m[i].to < x:=by
       intro lo m
       induction m generalizing lo with
       | nil=>intro i hi; simp at hi
       | cons c r ih=>
        intro i hi hr hi2
        cases i with
        | zero=>
         obtain⟨_,_,_,_,_,_,a7⟩:=hr
         cases r with
         | nil=>simp at hi2
         | cons d s=>
          obtain⟨b1,b2,b3,_⟩:=a7
          simp only [List.getElem_cons_zero]; omega
        | succ k=>
         simp only [List.getElem_cons_succ]
         exact ih (by simpa using hi) hr.2.2.2.2.2.2 (by simpa using hi2)
      have:=key hi h (by omega)
      omega
     ·omega
    subst hlast
    apply hl
    refine⟨by omega,?_⟩
    rw [List.getD_eq_getElem?_getD,List.getElem?_eq_getElem hi]; exact g
 ·rw [if_neg hf]
  exact runs_more (by omega) (fun y h1 h2=>by rw [show y=x from by omega]; simpa using hf) h
theorem bayN_runs (f:Int→Bool):∀ n:Nat,Runs f n 0 (bayN f n)
 | 0=>fun x h1 h2=>by omega
 | n+1=>by rw [bayN]; exact bayS_runs (by omega) (bayN_runs f n)
def bayL (f:Int→Bool) (L:Int):List Crs:=bayN f L.toNat
theorem bayL_runs (f:Int→Bool) {L:Int} (h:0≤L):Runs f L 0 (bayL f L):=by
 have:=bayN_runs f L.toNat
 rwa [show((L.toNat:Nat):Int)=L from by omega] at this
theorem bayL_eq {f:Int→Bool} {L:Int} {m:List Crs} (h:0≤L) (hm:Runs f L 0 m):m=bayL f L:=runs_unique hm (bayL_runs f h)
structure SwI (l:List Opn) (L:Int) (n:Nat) (a:Int) (m:List Crs):Prop where
 a0:0≤a
 aL:a≤L
 runs:Runs (freeB l) a 0 m
 past:∀ o∈l.take n,o.at_+o.width≤a
 edge:a=0∨freeB l (a - 1)=false
def InW (l:List Opn) (L:Int):Prop:=∀ o∈l,0≤o.at_∧1≤o.width∧o.at_+o.width≤L
theorem sw_start (l:List Opn) {L:Int} (h:0≤L):SwI l L 0 0 []:=⟨Int.le_refl _,h,fun x h1 h2=>by omega,fun o ho=>by simp at ho,.inl rfl⟩
def swM (a to:Int) (m:List Crs):List Crs:=if a < to then m++[⟨a,to⟩] else m
theorem sw_touch {l:List Opn} {L:Int} {n:Nat} {a:Int} {m:List Crs} (h:SwI l L n a m):∀ c∈m,c.to < a:=fun c hc=>by
 obtain⟨h1,h2,h3,h4⟩:=runs_mem h.runs c hc
 rcases Int.lt_or_eq_of_le h3 with g | g
 ·exact g
 ·rcases h.edge with e | e
  ·omega
  ·have:=h4 (a - 1) (by omega) (by omega)
   rw [e] at this; cases this
theorem sw_next {l:List Opn} {L:Int} {n:Nat} {a:Int} {m:List Crs} (hw:InW l L) (hs:l.Pairwise fun x y=>x.at_≤y.at_) (h:SwI l L n a m) (hn:n < l.length) :
  SwI l L (n+1) (max a ((l.getD n default).at_+(l.getD n default).width)) (swM a (l.getD n default).at_ m):=by
 have hg:l.getD n default=l[n]:=by rw [List.getD_eq_getElem?_getD,List.getElem?_eq_getElem hn]; rfl
 rw [hg]
 have hm:l[n]∈l:=List.getElem_mem hn
 obtain⟨w1,w2,w3⟩:=hw _ hm
 have ha:=h.a0; have haL:=h.aL
 have hcov:∀ x,l[n].at_≤x→x < l[n].at_+l[n].width→freeB l x=false:=fun x h1 h2=>freeB_no hm ⟨h1,h2⟩
 have hfree:∀ x,a≤x→x < l[n].at_→freeB l x=true:=fun x h1 h2=>by
  rw [freeB_iff]
  intro o ho hx
  obtain⟨i,hi,rfl⟩:=List.getElem_of_mem ho
  rcases Nat.lt_or_ge i n with g | g
  ·have:=h.past l[i] (List.mem_take_iff_getElem.2 ⟨i,by omega,rfl⟩)
   omega
  ·rcases Nat.lt_or_eq_of_le g with g' | g'
   ·have:=(List.pairwise_iff_getElem.1 hs) n i hn hi g'
    omega
   ·subst g'; omega
 have hpast:∀ o∈l.take (n+1),o.at_+o.width≤max a (l[n].at_+l[n].width):=fun o ho=>by
  obtain⟨i,hi,rfl⟩:=List.mem_take_iff_getElem.1 ho
  rcases Nat.lt_or_ge i n with g | g
  ·have:=h.past l[i] (List.mem_take_iff_getElem.2 ⟨i,by omega,rfl⟩)
   omega
  ·have hin:i=n:=by omega
   subst hin; omega
 have hedge:max a (l[n].at_+l[n].width)=0∨freeB l (max a (l[n].at_+l[n].width) - 1)=false:=by
  rcases Int.lt_or_le a (l[n].at_+l[n].width) with g | g
  ·right
   rw [show max a (l[n].at_+l[n].width)=l[n].at_+l[n].width from by omega]
   exact hcov _ (by omega) (by omega)
  ·rw [show max a (l[n].at_+l[n].width)=a from by omega]
   exact h.edge
 refine⟨by omega,by omega,?_,hpast,hedge⟩
 unfold swM
 by_cases g:a < l[n].at_
 ·rw [if_pos g,show max a (l[n].at_+l[n].width)=l[n].at_+l[n].width from by omega]
  exact runs_more (by omega) hcov (runs_add g hfree ha (sw_touch h) h.runs)
 ·rw [if_neg g]
  exact runs_more (by omega) (fun x h1 h2=>hcov x (by omega) (by omega)) h.runs
theorem sw_end {l:List Opn} {L:Int} {n:Nat} {a:Int} {m:List Crs} (h:SwI l L n a m) (hn:l.length≤n):swM a L m=bayL (freeB l) L:=by
 have ha:=h.a0; have haL:=h.aL
 refine bayL_eq (by omega) ?_
 unfold swM
 by_cases g:a < L
 ·rw [if_pos g]
  refine runs_add g (fun x h1 h2=>?_) ha (sw_touch h) h.runs
  rw [freeB_iff]
  intro o ho hx
  have:=h.past o (by rw [List.take_of_length_le hn]; exact ho)
  omega
 ·rw [if_neg g]
  have:a=L:=by omega
  rw [←this]; exact h.runs
theorem runs_num {f:Int→Bool} {hi:Int}:∀ {lo:Int} {m:List Crs},lo≤hi→Runs f hi lo m→(m.length:Int)≤hi - lo
 | _,[],h,_=>by simp; omega
 | _,c :: r,h,⟨a1,a2,a3,a4,a5,a6,a7⟩=>by
  have:=runs_num a3 a7
  rw [List.length_cons]; omega
theorem SwI.many {l:List Opn} {L:Int} {n:Nat} {a:Int} {m:List Crs} (h:SwI l L n a m):(m.length:Int)≤L:=by
 have:=runs_num h.a0 h.runs
 have:=h.aL
 omega
def lenL (m:List Crs):Int:=(m.map fun c=>c.to - c.frm).sum
theorem runs_sum {f:Int→Bool} {hi:Int}:∀ {lo:Int} {m:List Crs},lo≤hi→Runs f hi lo m→0≤lenL m∧lenL m≤hi - lo
 | _,[],h,_=>by simp [lenL]; omega
 | _,c :: r,h,⟨a1,a2,a3,a4,a5,a6,a7⟩=>by
  have:=runs_sum a3 a7
  unfold lenL at *
  rw [List.map_cons,List.sum_cons]
  omega
end Go.Pln
namespace Go.Pln
open Go Go.K Go.RowKit Go.Stn
def SwR (ti tl te:TypeId) (p q:Nat) (a:Int) (m:List Crs):Res where
 A B w:=∃ (ra:Option Addr) (rc:Nat),(SepR [Box p [.int .i64 a] ti,Box q [.slice ra m.length rc] tl,Row ra 2 rc te encCrs m]).A B w
 loc B w w' h hA:=let ⟨ra,rc,h1⟩:=hA; ⟨ra,rc,(SepR [Box p [.int .i64 a] ti,Box q [.slice ra m.length rc] tl,Row ra 2 rc te encCrs m]).loc B w w' h h1⟩
section
variable {c:Cx} {ds:List Deferred} {T:List (Nat×Value)} {H:List Res} {K:Act→World→Prop} {ti tl te:TypeId} {p q:Nat} {a:Int} {m:List Crs}
theorem gk_openSw (h:∀ (ra:Option Addr) (rc:Nat),GK c ds K T (Box p [.int .i64 a] ti :: Box q [.slice ra m.length rc] tl :: Row ra 2 rc te encCrs m :: H)):GK c ds K T (SwR ti tl te p q a m :: H):=by
 intro b w ha hw
 obtain⟨hb,B,hB,⟨ra,rc,h2⟩,hr⟩:=hw
 exact h ra rc b w ha (Hp.split (L:=[_,_,_]) ⟨hb,B,hB,h2,hr⟩)
theorem gk_closeSw {ra:Option Addr} {rc:Nat} (h:GK c ds K T (SwR ti tl te p q a m :: H)):GK c ds K T (Box p [.int .i64 a] ti :: Box q [.slice ra m.length rc] tl :: Row ra 2 rc te encCrs m :: H):=by
 intro b w ha hw
 obtain⟨hb,B,hB,h2,hr⟩:=Hp.pack (L:=[_,_,_]) (H:=H) hw
 exact h b w ha ⟨hb,B,hB,⟨ra,rc,h2⟩,hr⟩
end
theorem sw_yes {a t:Int} {m:List Crs} (h:decide (a < t)=true):m++[⟨a,t⟩]=swM a t m:=by unfold swM; rw [if_pos (of_decide_eq_true h)]
theorem sw_no {a t:Int} {m:List Crs} (h:decide (a < t)=false):m=swM a t m:=by unfold swM; rw [if_neg (of_decide_eq_false h)]
end Go.Pln
namespace Go.Pln
open Go Go.K Go.RowKit Go.Stn
def inCrs (c:Crs) (o:Opn):Bool:=decide (o.frm < c.to)&&decide (c.frm < o.frm+o.high)
def inTop (h:Int) (o:Opn):Bool:=decide (o.frm+o.high=h)
def baysP (p:Opn→Bool) (v:Wll):List Crs:=bayL (freeB (v.opens.filter p)) v.length
def baysC (v:Wll) (c:Crs):List Crs:=baysP (inCrs c) v
def baysT (v:Wll) (s:Sht):List Crs:=baysP (inTop s.height) v
def copF (t to:Int):Nat→Int→Int→Int→List Cpe
 | 0,_,_,_=>[]
 | f+1,x,h,o=>if x < to then⟨x,min t (to - x),h⟩ :: copF t to f (x+t) o h else []
def copB (t to x h o:Int):List Cpe:=copF t to (to - x).toNat x h o
theorem copF_more {t to:Int} (ht:1≤t):∀ (f g:Nat) (x h o:Int),(to - x).toNat≤f→(to - x).toNat≤g→copF t to f x h o=copF t to g x h o
 | 0,0,_,_,_,_,_=>rfl
 | 0,g+1,x,h,o,hf,_=>by rw [copF,copF,if_neg (by omega)]
 | f+1,0,x,h,o,_,hg=>by rw [copF,copF,if_neg (by omega)]
 | f+1,g+1,x,h,o,hf,hg=>by
  rw [copF,copF]
  by_cases hx:x < to
  ·rw [if_pos hx,if_pos hx,copF_more ht f g (x+t) o h (by omega) (by omega)]
  ·rw [if_neg hx,if_neg hx]
theorem copB_step {t to x h o:Int} (ht:1≤t) (hx:x < to):copB t to x h o=⟨x,min t (to - x),h⟩ :: copB t to (x+t) o h:=by
 unfold copB
 obtain⟨f,hf⟩:∃ f,(to - x).toNat=f+1:=⟨(to - x).toNat - 1,by omega⟩
 rw [hf,copF,if_pos hx,copF_more ht f ((to - (x+t)).toNat) (x+t) o h (by omega) (Nat.le_refl _)]
theorem copB_end {t to x h o:Int} (hx:¬ x < to):copB t to x h o=[]:=by
 unfold copB
 rw [show(to - x).toNat=0 from by omega]; rfl
theorem copF_len (t to:Int):∀ (f:Nat) (x h o:Int),(copF t to f x h o).length≤f
 | 0,_,_,_=>Nat.le_refl _
 | f+1,x,h,o=>by
  rw [copF]
  split
  ·rw [List.length_cons]; have:=copF_len t to f (x+t) o h; omega
  ·simp
theorem copB_len (t to x h o:Int):(copB t to x h o).length≤(to - x).toNat:=copF_len _ _ _ _ _ _
def otherH (s:Sht):Int:=if s.cope=3 then s.short else s.tall
def copesB (s:Sht) (bs:List Crs):List Cpe:=bs.flatMap fun b=>copB s.thick b.to b.frm s.tall (otherH s)
def copesL (v:Wll) (s:Sht):List Cpe:=if s.cope=0 then [] else copesB s (baysT v s)
theorem copesB_cons (s:Sht) (b:Crs) (r:List Crs):copesB s (b :: r)=copB s.thick b.to b.frm s.tall (otherH s)++copesB s r:=rfl
theorem copesB_len {f:Int→Bool} {hi:Int} (s:Sht):∀ {lo:Int} {m:List Crs},lo≤hi→Runs f hi lo m→((copesB s m).length:Int)≤hi - lo
 | _,[],h,_=>by simp [copesB]; omega
 | _,b :: r,h,⟨a1,a2,a3,a4,a5,a6,a7⟩=>by
  rw [copesB_cons,List.length_append]
  have h1:=copB_len s.thick b.to b.frm s.tall (otherH s)
  have h2:=copesB_len s a3 a7
  omega
def thrT (bs:List Crs) (x:Int):Bool:=bs.any fun b=>decide (b.frm < x)&&decide (x < b.to)
def thrF (bs:List Crs) (L e:Int):Nat→Int→List Int
 | 0,_=>[]
 | f+1,x=>if x < L then(if thrT bs x=true then x :: thrF bs L e f (x+e) else thrF bs L e f (x+e)) else []
def thrX (bs:List Crs) (L e x:Int):List Int:=thrF bs L e (L - x).toNat x
theorem thrF_more {bs:List Crs} {L e:Int} (he:1≤e):∀ (f g:Nat) (x:Int),(L - x).toNat≤f→(L - x).toNat≤g→thrF bs L e f x=thrF bs L e g x
 | 0,0,_,_,_=>rfl
 | 0,g+1,x,hf,_=>by rw [thrF,thrF,if_neg (by omega)]
 | f+1,0,x,_,hg=>by rw [thrF,thrF,if_neg (by omega)]
 | f+1,g+1,x,hf,hg=>by
  rw [thrF,thrF]
  by_cases hx:x < L
  ·rw [if_pos hx,if_pos hx,thrF_more he f g (x+e) (by omega) (by omega)]
  ·rw [if_neg hx,if_neg hx]
theorem thrX_step {bs:List Crs} {L e x:Int} (he:1≤e) (hx:x < L):thrX bs L e x=if thrT bs x=true then x :: thrX bs L e (x+e) else thrX bs L e (x+e):=by
 unfold thrX
 obtain⟨f,hf⟩:∃ f,(L - x).toNat=f+1:=⟨(L - x).toNat - 1,by omega⟩
 rw [hf,thrF,if_pos hx,thrF_more he f ((L - (x+e)).toNat) (x+e) (by omega) (Nat.le_refl _)]
theorem thrX_end {bs:List Crs} {L e x:Int} (hx:¬ x < L):thrX bs L e x=[]:=by
 unfold thrX
 rw [show(L - x).toNat=0 from by omega]; rfl
def thrI (s:Sht):Int:=findI (fun c:Crs=>decide (s.at_≤c.frm)) (coursesL s)
def thrNo (s:Sht):Bool:=decide (s.every=0)||decide (thrI s < 0)
def thrAt (s:Sht):Int:=if thrNo s=true then -1 else thrI s
def thrL (v:Wll) (s:Sht):List Int:=if thrNo s=true then [] else thrX (baysC v ((coursesL s).getD (thrI s).toNat default)) v.length s.every (s.every.tdiv 2)
def sumB (f:Crs→Int) (bs:List Crs):Int:=(bs.map f).sum
theorem sumB_cons (f:Crs→Int) (b:Crs) (r:List Crs):sumB f (b :: r)=f b+sumB f r:=by unfold sumB; rw [List.map_cons,List.sum_cons]
def faceW (s:Sht) (c:Crs):Int:=min (2*s.skin) (widthI s c.frm)
def heartW (s:Sht) (c:Crs):Int:=max (widthI s c.frm - 2*s.skin) 0
def areaC (c b:Crs):Int:=(b.to - b.frm)*(c.to - c.frm)
def faceC (v:Wll) (s:Sht) (c:Crs):Int:=sumB (fun b=>areaC c b*faceW s c) (baysC v c)
def heartC (v:Wll) (s:Sht) (c:Crs):Int:=sumB (fun b=>areaC c b*heartW s c) (baysC v c)
def faceL (v:Wll) (s:Sht):Int:=sumB (faceC v s) (coursesL s)
def heartL (v:Wll) (s:Sht):Int:=sumB (heartC v s) (coursesL s)
def footL (v:Wll) (s:Sht):Int:=v.length*s.footing*(s.base+2*s.spread)
def topF (s:Sht) (c:Cpe):Int:=c.width*c.high*widthI s s.height
def topL (v:Wll) (s:Sht):Int:=((copesL v s).map (topF s)).sum
def roodL (v:Wll) (s:Sht):Int:=(100*v.length).tdiv s.rood
structure Qnt where
 face:Int
 heart:Int
 foot:Int
 top:Int
 throughs:Int
 copes:Int
 roods:Int
def takeQ (v:Wll) (s:Sht):Qnt:=⟨faceL v s,heartL v s,footL v s,topL v s,(thrL v s).length,(copesL v s).length,roodL v s⟩
end Go.Pln
namespace Go.Proofs
open Go.Shelf
def Tryz.sortOp_ren:Go.Shelf.Ren:=⟨fun | 6=>155 | 15=>174 | 14=>173 | 28=>191 | 29=>176 | 20=>183 | 21=>184 | 22=>185 | 23=>186 | 24=>187 | 25=>188 | 26=>189 | 27=>190 | 46=>196 | 47=>197 | 48=>198 | 49=>199 | 50=>200 | 57=>201 | n=>n,fun | 22=>92 | 24=>98 | 25=>216 | 3=>3 | 39=>90 | 0=>0 | 53=>234 | 55=>226 | 4=>4 | 46=>261 | 45=>260 | 50=>169 | 5=>5 | 9=>9 | 66=>271 | 70=>186 | 76=>278 | 77=>214 | n=>n,fun | n=>n⟩
theorem Tryz.sortOp:Go.Proofs.SlLaysF0.n6 Tryz.prog Tryz.sortOp_ren:={
 mixed:=by kernel_rfl
 f6:=⟨Tryz.f155.name,by decide,Tryz.func155.trans (congrArg some (by kernel_rfl))⟩
 f14:=⟨Tryz.f173.name,by decide,Tryz.func173.trans (congrArg some (by kernel_rfl))⟩
 f15:=Tryz.func174.trans (congrArg some (by kernel_rfl))
 f20:=⟨Tryz.f183.name,by decide,Tryz.func183.trans (congrArg some (by kernel_rfl))⟩
 f21:=⟨Tryz.f184.name,by decide,Tryz.func184.trans (congrArg some (by kernel_rfl))⟩
 f22:=⟨Tryz.f185.name,by decide,Tryz.func185.trans (congrArg some (by kernel_rfl))⟩
 f23:=⟨Tryz.f186.name,by decide,Tryz.func186.trans (congrArg some (by kernel_rfl))⟩
 f24:=⟨Tryz.f187.name,by decide,Tryz.func187.trans (congrArg some (by kernel_rfl))⟩
 f25:=⟨Tryz.f188.name,by decide,Tryz.func188.trans (congrArg some (by kernel_rfl))⟩
 f26:=⟨Tryz.f189.name,by decide,Tryz.func189.trans (congrArg some (by kernel_rfl))⟩
 f27:=⟨Tryz.f190.name,by decide,Tryz.func190.trans (congrArg some (by kernel_rfl))⟩
 f28:=Tryz.func191.trans (congrArg some (by kernel_rfl))
 f29:=Tryz.func176.trans (congrArg some (by kernel_rfl))
 f46:=⟨Tryz.f196.name,by decide,Tryz.func196.trans (congrArg some (by kernel_rfl))⟩
 f47:=Tryz.func197.trans (congrArg some (by kernel_rfl))
 f48:=Tryz.func198.trans (congrArg some (by kernel_rfl))
 f49:=⟨Tryz.f199.name,by decide,Tryz.func199.trans (congrArg some (by kernel_rfl))⟩
 f50:=⟨Tryz.f200.name,by decide,Tryz.func200.trans (congrArg some (by kernel_rfl))⟩
 f57:=⟨Tryz.f201.name,by decide,Tryz.func201.trans (congrArg some (by kernel_rfl))⟩
 t0:=Tryz.underlying0
 a0:=Tryz.isAgg0
 z0:=Tryz.sizeOf0
 v0:=Tryz.zeroValue0
 t3:=Tryz.underlying3
 a3:=Tryz.isAgg3
 z3:=Tryz.sizeOf3
 v3:=Tryz.zeroValue3
 t4:=Tryz.underlying4
 a4:=Tryz.isAgg4
 z4:=Tryz.sizeOf4
 v4:=Tryz.zeroValue4
 t5:=Tryz.underlying5
 a5:=Tryz.isAgg5
 z5:=Tryz.sizeOf5
 v5:=Tryz.zeroValue5
 t9:=Tryz.underlying9
 a9:=Tryz.isAgg9
 z9:=Tryz.sizeOf9
 v9:=Tryz.zeroValue9
 t22:=Tryz.underlying92
 a22:=Tryz.isAgg92
 z22:=Tryz.sizeOf92
 v22:=Tryz.zeroValue92
 t25:=Tryz.underlying216
 a25:=Tryz.isAgg216
 z25:=Tryz.sizeOf216
 v25:=Tryz.zeroValue216
 t39:=Tryz.underlying90
 a39:=Tryz.isAgg90
 z39:=Tryz.sizeOf90
 v39:=Tryz.zeroValue90
 t45:=Tryz.underlying260
 a45:=Tryz.isAgg260
 z45:=Tryz.sizeOf260
 v45:=Tryz.zeroValue260
 t46:=Tryz.underlying261
 a46:=Tryz.isAgg261
 z46:=Tryz.sizeOf261
 v46:=Tryz.zeroValue261
 t50:=Tryz.underlying169
 a50:=Tryz.isAgg169
 z50:=Tryz.sizeOf169
 v50:=Tryz.zeroValue169
 t53:=Tryz.underlying234
 a53:=Tryz.isAgg234
 z53:=Tryz.sizeOf234
 v53:=Tryz.zeroValue234
 t55:=Tryz.underlying226
 a55:=Tryz.isAgg226
 z55:=Tryz.sizeOf226
 v55:=Tryz.zeroValue226
 t66:=Tryz.underlying271
 a66:=Tryz.isAgg271
 z66:=Tryz.sizeOf271
 v66:=Tryz.zeroValue271
 t70:=Tryz.underlying186
 a70:=Tryz.isAgg186
 z70:=Tryz.sizeOf186
 v70:=Tryz.zeroValue186
 t76:=Tryz.underlying278
 a76:=Tryz.isAgg278
 z76:=Tryz.sizeOf278
 v76:=Tryz.zeroValue278
 t77:=Tryz.underlying214
 a77:=Tryz.isAgg214
 z77:=Tryz.sizeOf214
 v77:=Tryz.zeroValue214 }
end Go.Proofs
namespace Go.Proofs.YtdcfcfhmkfkgmaaGreatDoor
open Go.K Go.Stn Go.Pln Go.RowKit
theorem tf191:TF Tryz.prog 191 false 1 (.nilFunc):=⟨by kernel_rfl,by kernel_rfl⟩
theorem en120:En Tryz.prog 120:=en_of Tryz.func120 (by kernel_rfl) (by kernel_rfl)
theorem en139:En Tryz.prog 139:=en_of Tryz.func139 (by kernel_rfl) (by kernel_rfl)
theorem en154:En Tryz.prog 154:=en_of Tryz.func154 (by kernel_rfl) (by kernel_rfl)
theorem en155:En Tryz.prog 155:=en_of Tryz.func155 (by kernel_rfl) (by kernel_rfl)
theorem en172:En Tryz.prog 172:=en_of Tryz.func172 (by kernel_rfl) (by kernel_rfl)
abbrev oneOp (o:Opn):List Value:=[.agg #[.int .u8 o.kind,.int .i64 o.at_,.int .i64 o.width,.int .i64 o.frm,.int .i64 o.high]]
theorem ones_get {l:List Opn} {i:Int} (h0:0≤i) (h:i < (l.length:Int)):(l.map oneOp)[i.toNat]?=some (oneOp (l.getD i.toNat default)):=by
 rw [List.getElem?_map,List.getD_eq_getElem?_getD,List.getElem?_eq_getElem (by omega)]; rfl
theorem ones_inv {l:List Opn} {n:Nat} {a:List Value} (h:(l.map oneOp)[n]?=some a):∃ o,l[n]?=some o∧a=oneOp o:=by
 rw [List.getElem?_map] at h
 cases e:l[n]? with
 | none=>rw [e] at h; cases h
 | some o=>rw [e] at h; cases h; exact⟨o,rfl,rfl⟩
theorem ones_one (l:List Opn):∀ a∈l.map oneOp,a.length=1:=fun a h=>by
 obtain⟨o,_,rfl⟩:=List.mem_map.1 h; rfl
theorem take_snocO {l:List Opn} {n:Nat} {o:Opn} (h:l[n]?=some o):l.take (n+1)=l.take n++[o]:=by
 rw [List.take_add_one,h]; rfl
set_option maxRecDepth 100000 in
set_option maxHeartbeats 1000000 in
theorem span_c (o:Opn) (w:World)  :
  Calls Tryz.prog 120 #[.agg #[.int .u8 o.kind,.int .i64 o.at_,.int .i64 o.width,.int .i64 o.frm,.int .i64 o.high]] w (Pure (.tuple #[.int .i64 o.at_,.int .i64 (W (o.at_+o.width))]) w):=by
 refine calls_of_gk (vs:=[_]) Tryz.func120 rfl rfl (Nat.le_of_ble_eq_true rfl) ?_
 refine gk_seq ?_
 refine gk_region ?_
 refine gk_yx rfl rfl (yx_box (vs:=[_,_,_,_,_]) rfl rfl) fun b1=>?_
 refine gk_y rfl rfl (y_assign rfl) ?_
 refine gk_y rfl rfl (y_assign rfl) ?_
 refine gk_nil (gk_sub (T':=[(1,_),(2,_),(3,_)]) ⟨rfl,rfl,rfl,trivial⟩ ?_)
 refine gk_seq ?_
 refine gk_any 9 (fun _=>mixed) (by kernel_rfl) ?_
 refine ph_y (y_fieldAddr fo98_1 rfl) ?_
 refine ph_y (y_loadB1 0 tf3 rfl rfl rfl) ?_
 refine ph_y (y_fieldAddr fo98_1 rfl) ?_
 refine ph_y (y_loadB1 0 tf3 rfl rfl rfl) ?_
 refine ph_y (y_fieldAddr fo98_2 rfl) ?_
 refine ph_y (y_loadB1 0 tf3 rfl rfl rfl) ?_
 refine ph_y (y_add rfl rfl) ?_
 refine ph_y (y_assign rfl) ?_
 refine ph_y (y_assign rfl) ?_
 refine gk_nil (gk_sub (T':=[(2,_),(3,_)]) ⟨rfl,rfl,trivial⟩ ?_)
 refine gk_ret ?_
 refine gk_pure (rv_two rfl (r1_tmp rfl) (r1_tmp rfl)) ?_
 rfl
set_option maxRecDepth 100000 in
set_option maxHeartbeats 1000000 in
theorem parts1_c (x y:Opn) (b:Nat) (w:World) (hb:Has w (Box b [.func (.func 120) #[] #[]] 191)) :
  Calls Tryz.prog 138 #[.agg #[.int .u8 x.kind,.int .i64 x.at_,.int .i64 x.width,.int .i64 x.frm,.int .i64 x.high],.agg #[.int .u8 y.kind,.int .i64 y.at_,.int .i64 y.width,.int .i64 y.frm,.int .i64 y.high],.pointer (some ⟨b,0,none⟩)] w (Pure (.int .i64 (cmpI x.at_ y.at_)) w):=by
 refine calls_of_gk (vs:=[_,_,_]) Tryz.func138 rfl rfl (Nat.le_of_ble_eq_true rfl) ?_
 refine gk_seq ?_
 refine gk_region ?_
 refine gk_yx rfl rfl (yx_box (vs:=[_,_,_,_,_]) rfl rfl) fun b3=>?_
 refine gk_yx rfl rfl (yx_box (vs:=[_,_,_,_,_]) rfl rfl) fun b4=>?_
 refine gk_y rfl rfl (y_assign rfl) ?_
 refine gk_nil (gk_sub (T':=[(2,_),(3,_),(4,_),(5,_)]) ⟨rfl,rfl,rfl,rfl,trivial⟩ ?_)
 refine gk_seq ?_
 refine gk_region ?_
 refine gk_y rfl rfl (y_load1 tf191 rfl (fun _ hw=>has_box_cell (Rd.has (Has.rd hb) hw) rfl)) ?_
 refine gk_y rfl rfl (y_loadBA 1 tf98 rfl rfl (vs:=[_,_,_,_,_]) rfl rfl) ?_
 refine gk_y rfl rfl (y_callV (fs:=[]) (cap:=[]) en120 rfl rfl (fun w hw=>span_c x w)) ?_
 refine gk_y rfl rfl (y_move rfl) ?_
 refine gk_y rfl rfl (y_extract rfl rfl) ?_
 refine gk_y rfl rfl (y_extract rfl rfl) ?_
 refine gk_y rfl rfl (y_assign rfl) ?_
 refine gk_y rfl rfl (y_assign rfl) ?_
 refine gk_nil (gk_sub (T':=[(2,_),(4,_),(5,_),(6,_)]) ⟨rfl,rfl,rfl,rfl,trivial⟩ ?_)
 refine gk_seq ?_
 refine gk_region ?_
 refine gk_y rfl rfl (y_load1 tf191 rfl (fun _ hw=>has_box_cell (Rd.has (Has.rd hb) hw) rfl)) ?_
 refine gk_y rfl rfl (y_loadBA 0 tf98 rfl rfl (vs:=[_,_,_,_,_]) rfl rfl) ?_
 refine gk_y rfl rfl (y_callV (fs:=[]) (cap:=[]) en120 rfl rfl (fun w hw=>span_c y w)) ?_
 refine gk_y rfl rfl (y_move rfl) ?_
 refine gk_y rfl rfl (y_extract rfl rfl) ?_
 refine gk_y rfl rfl (y_extract rfl rfl) ?_
 refine gk_y rfl rfl (y_assign rfl) ?_
 refine gk_y rfl rfl (y_assign rfl) ?_
 refine gk_nil (gk_sub (T':=[(5,_),(6,_),(8,_)]) ⟨rfl,rfl,rfl,trivial⟩ ?_)
 refine gk_seq ?_
 refine gk_region ?_
 refine gk_y rfl rfl (y_move rfl) ?_
 refine gk_y rfl rfl (y_move rfl) ?_
 refine gk_y rfl rfl (y_call en139 rfl (fun w hw=>compare_c _ _ w)) ?_
 refine gk_y rfl rfl (y_assign rfl) ?_
 refine gk_nil (gk_sub (T':=[(5,_)]) ⟨rfl,trivial⟩ ?_)
 refine gk_ret ?_
 refine gk_pure (rv_one rfl (r1_tmp rfl)) ?_
 rfl
set_option maxRecDepth 100000 in
set_option maxHeartbeats 1000000 in
theorem values1_c (l:List Opn) (a:Option Addr) (cap:Nat) (b:Nat) (hs:Small l.length) :
  SeqC Tryz.prog 156 [.pointer (some ⟨b,0,none⟩)] (l.map oneOp) (fun w=>Has w (Box b [.slice a l.length cap] 92)∧Has w (Elems a 5 encOpn l)):=by
 intro X J Rl D y w B x0 hB hA h0 hM hy
 refine calls_of_gkB hB hA (vs:=[_,_]) Tryz.func156 rfl rfl (Nat.le_of_ble_eq_true rfl) ?_
 have hmem:∀ {cz:Cx} {Hz:List Res} {xz:X} {pz:Nat} {w':World},Inside (fun k=>k < w.heap.size∧¬ B k) w cz→Hz[pz]?=some (J xz)→Hp cz.U cz.w0 Hz w'→(Has w' (Box b [.slice a l.length cap] 92)∧Has w' (Elems a 5 encOpn l)):=fun hin hp hw=>by
  obtain⟨B',q1,q2,q3,q4⟩:=own_of_in hin hp hw
  exact hM _ _ B' q4 q1 q2 q3
 have ins0:=insideB Tryz.prog Tryz.f156.ntmps w B
 refine gk_seq ?_
 refine gk_region ?_
 refine gk_y rfl rfl (y_load1 tf92 rfl (fun _ hw=>has_box_cell (hmem ins0 (pz:=0) rfl hw).1 rfl)) ?_
 refine gk_y rfl rfl (y_lenS (Tryz.underlying92) rfl) ?_
 refine gk_y rfl rfl (y_move rfl) ?_
 refine gk_nil (gk_sub (T':=[(0,_),(5,_),(6,_),(7,_)]) ⟨rfl,rfl,rfl,rfl,trivial⟩ ?_)
 refine gk_block ?_
 refine gk_loop (X:=Int×X) (fun⟨i,x2⟩=>[(0,.func (.yield y) #[] #[]),(5,.slice a l.length cap),(6,.int .i64 (l.length:Int)),(7,.int .i64 i)]) (fun⟨i,x2⟩=>[J x2]) (fun⟨i,x2⟩=>(0≤i∧i≤l.length∧Rl i.toNat x2)) (fun⟨i,x2⟩=>(l.length - i).toNat) (0,x0) ⟨rfl,rfl,rfl,rfl,trivial⟩ rfl ?_ ?_
 ·exact⟨by omega,by omega,h0⟩
 ·rintro ⟨i,x2⟩ hI
  obtain⟨g0,g1,g2⟩:=hI
  refine gk_seq ?_
  refine gk_region ?_
  refine gk_y rfl rfl (y_lss rfl rfl) ?_
  refine gk_nil (gk_sub (T':=[(0,_),(5,_),(6,_),(7,_),(8,_)]) ⟨rfl,rfl,rfl,rfl,rfl,trivial⟩ ?_)
  refine gk_seq ?_
  refine gk_cond rfl (fun hc8=>?_) (fun hc8=>?_)
  ·simp only [decide_eq_true_eq] at hc8
   refine gk_skip ?_
   refine gk_seq ?_
   refine gk_block ?_
   refine gk_seq ?_
   refine gk_region ?_
   refine gk_y rfl rfl (y_indexE se92 rfl rfl (fun _ hw=>(hmem ins0 (pz:=0) rfl hw).2) (by omega) (by omega)) ?_
   refine gk_y rfl rfl (y_loadE (vs:=[_,_,_,_,_]) tf98 rfl (fun _ hw=>(hmem ins0 (pz:=0) rfl hw).2) (by omega) (by omega) rfl) ?_
   refine gk_yx rfl rfl (yx_alloc tf98 (zs:=[_,_,_,_,_]) rfl) fun b4=>?_
   refine gk_storeV 0 tf98 rfl rfl (vs:=[_,_,_,_,_]) rfl rfl rfl rfl rfl ?_
   refine gk_nil (gk_sub (T':=[(0,_),(4,_),(5,_),(6,_),(7,_)]) ⟨rfl,rfl,rfl,rfl,rfl,trivial⟩ ?_)
   refine gk_seq ?_
   refine gk_region ?_
   refine gk_y rfl rfl (y_move rfl) ?_
   refine gk_y rfl rfl (y_loadBA 0 tf98 rfl rfl (vs:=[_,_,_,_,_]) rfl rfl) ?_
   refine gk_yield 1 ins0 rfl rfl rfl rfl (hy _ _ _ (ones_get g0 (by omega)) g2) fun b13 x13 hp13=>?_
   refine gk_y rfl rfl (y_not rfl) ?_
   refine gk_nil (gk_sub (T':=[(0,_),(5,_),(6,_),(7,_),(14,_)]) ⟨rfl,rfl,rfl,rfl,rfl,trivial⟩ ?_)
   refine gk_cond rfl (fun hc14=>?_) (fun hc14=>?_)
   ·
    refine gk_ret ?_
    refine gk_turns x13 1 (rv_none rfl) rfl rfl (.inr (by have:=hp13; rwa [show b13=false from by simpa using hc14,if_neg Bool.false_ne_true] at this))
   ·
    refine gk_skip ?_
    refine gk_region ?_
    refine gk_y rfl rfl (y_addI rfl rfl (by omega) (by omega)) ?_
    refine gk_y rfl rfl (y_move rfl) ?_
    refine gk_nil (gk_sub (T':=[(0,_),(5,_),(6,_),(7,_)]) ⟨rfl,rfl,rfl,rfl,trivial⟩ ?_)
    refine gk_dropAt 0 rfl ?_
    exact gk_next (i+1,x13) ⟨rfl,rfl,rfl,rfl,trivial⟩ rfl ⟨by omega,by omega,by have:=hp13; rw [show b13=true from by simpa using hc14,if_pos rfl] at this; rwa [show(i+1).toNat=i.toNat+1 from by omega]⟩ (by simp only []; omega)
  ·simp only [decide_eq_false_iff_not] at hc8
   refine gk_exit rfl ?_
   refine gk_turns x2 0 (rv_none rfl) rfl rfl (.inl (by rw [List.length_map]; rwa [show i.toNat=l.length from by omega] at g2))
set_option maxRecDepth 100000 in
set_option maxHeartbeats 1000000 in
theorem appendseq_c (xs:List Opn) (gg:FuncId) (gcap:List Value) (w:World) (hs:Small xs.length) (M:World→Prop) (hM:∀ w',Ext w w'→M w') (hen:En Tryz.prog gg) (hseq:SeqC Tryz.prog gg gcap (xs.map oneOp) M) :
  Calls Tryz.prog 172 #[.slice none 0 0,.func (.func gg) #[] gcap.toArray] w (Gives (fun z:Option Addr×Nat=>.slice z.1 xs.length z.2) (fun z=>Row z.1 5 z.2 98 encOpn xs) w):=by
 refine calls_of_gk (vs:=[_,_]) Tryz.func172 rfl rfl (Nat.le_of_ble_eq_true rfl) ?_
 refine gk_seq ?_
 refine gk_region ?_
 refine gk_yx rfl rfl (yx_box (vs:=[_]) rfl rfl) fun b2=>?_
 refine gk_y rfl rfl (y_assign rfl) ?_
 refine gk_nil (gk_sub (T':=[(1,_),(2,_),(4,_)]) ⟨rfl,rfl,rfl,trivial⟩ ?_)
 refine gk_seq ?_
 refine gk_seq ?_
 refine gk_region ?_
 refine gk_y rfl rfl (y_move rfl) ?_
 refine gk_nil (gk_sub (T':=[(2,_),(4,_),(6,_)]) ⟨rfl,rfl,rfl,trivial⟩ ?_)
 refine gk_block ?_
 refine gk_newNil 98 encOpn 5 ?_
 refine gk_sub (T':=[(2,_),(4,_),(6,_)]) ⟨rfl,rfl,rfl,trivial⟩ ?_
 refine gk_rangeFunc (X:=Option Addr×Nat×List Opn) (fun⟨b,bc,m⟩=>[Row b 5 bc 98 encOpn m,Box b2 [.slice b m.length bc] 92]) (fun n ⟨b,bc,m⟩=>m=xs.take n) (fun⟨b,bc,m⟩=>False) [] (none,0,[]) rfl hen rfl rfl rfl hseq (fun⟨b,bc,m⟩ w hw=>hM _ hw.base.ext0) (ones_one _) rfl ?_ ?_ ?_ ?_
 ·rintro R1 R2 rl U' w' n ⟨b,bc,m⟩ args hget hR hrd hins hbeg
  obtain⟨o,hp,rfl⟩:=ones_inv hget
  have hlen:m.length≤xs.length:=by rw [hR,List.length_take]; omega
  refine gk_sub (T':=[(2,_),(7,_)]) ⟨rfl,rfl,trivial⟩ ?_
  refine gk_region ?_
  refine gk_yx rfl rfl (yx_alloc tf98 (zs:=[_,_,_,_,_]) rfl) fun b5=>?_
  refine gk_storeV 0 tf98 rfl rfl (vs:=[_,_,_,_,_]) rfl rfl rfl rfl rfl ?_
  refine gk_nil (gk_sub (T':=[(2,_),(5,_)]) ⟨rfl,rfl,trivial⟩ ?_)
  refine gk_front 1 rfl ?_
  refine hbeg _ _ _ ?_
  refine gk_block ?_
  refine gk_region ?_
  refine gk_y rfl rfl (y_loadB1 3 tf92 rfl rfl rfl) ?_
  refine gk_y rfl rfl (y_loadBA 1 tf98 rfl rfl (vs:=[_,_,_,_,_]) rfl rfl) ?_
  refine gk_yx rfl rfl (yx_buildSlice rfl (bs92_1 _ _ _ _ _) encOpn_ok rfl) fun b10=>?_
  refine gk_append (m:=[o]) 3 af92 encOpn_ok rfl rfl rfl rfl (fun _ hw=>(has_row encOpn_ok (hw.has (p:=0) rfl))) (by first | omega | (simp only [List.length_cons,List.length_nil]; omega)) (by first | (unfold maxLen; omega) | (simp only [List.length_cons,List.length_nil,maxLen]; omega)) fun a11 c11=>?_
  refine gk_storeV 4 tf92 rfl rfl (vs:=[_]) rfl rfl rfl rfl rfl ?_
  refine gk_nil (gk_sub (T':=[]) trivial ?_)
  refine gk_dropAt 0 rfl ?_
  refine gk_dropAt 1 rfl ?_
  exact gk_joined (a11,c11,_) trivial rfl (by rw [take_snocO hp,←hR])
 ·rintro Dm ⟨b,bc,m⟩ hR
  obtain rfl:m=xs:=by rw [hR]; simp
  refine gk_seq ?_
  refine gk_region ?_
  refine gk_y rfl rfl (y_loadB1 2 tf92 rfl rfl rfl) ?_
  refine gk_y rfl rfl (y_assign rfl) ?_
  refine gk_nil (gk_sub (T':=[(4,_)]) ⟨rfl,trivial⟩ ?_)
  refine gk_ret ?_
  refine gk_unmark 0 rfl ?_
  refine gk_gives (b,bc) 0 (rv_one rfl (r1_tmp rfl)) ?_ rfl
  rfl
 ·exact fun _ _ h=>h.elim
 ·exact fun _ _ _ _ h=>absurd h (by simp)
set_option maxRecDepth 100000 in
set_option maxHeartbeats 1000000 in
theorem collect_c (xs:List Opn) (gg:FuncId) (gcap:List Value) (w:World) (hs:Small xs.length) (M:World→Prop) (hM:∀ w',Ext w w'→M w') (hen:En Tryz.prog gg) (hseq:SeqC Tryz.prog gg gcap (xs.map oneOp) M) :
  Calls Tryz.prog 154 #[.func (.func gg) #[] gcap.toArray] w (Gives (fun z:Option Addr×Nat=>.slice z.1 xs.length z.2) (fun z=>Row z.1 5 z.2 98 encOpn xs) w):=by
 refine calls_of_gk (vs:=[_]) Tryz.func154 rfl rfl (Nat.le_of_ble_eq_true rfl) ?_
 refine gk_seq ?_
 refine gk_region ?_
 refine gk_y rfl rfl (y_assign rfl) ?_
 refine gk_nil (gk_sub (T':=[(0,_),(2,_)]) ⟨rfl,rfl,trivial⟩ ?_)
 refine gk_seq ?_
 refine gk_region ?_
 refine gk_y rfl rfl (y_move rfl) ?_
 refine gk_yx rfl rfl (yx_call en172 rfl (fun w hw=>appendseq_c xs _ _ w (by assumption) M (fun w' hx=>hM w' (hw.base.ext0.trans hx)) hen hseq)) fun p4=>?_
 refine gk_y rfl rfl (y_assign rfl) ?_
 refine gk_nil (gk_sub (T':=[(2,_)]) ⟨rfl,trivial⟩ ?_)
 refine gk_ret ?_
 refine gk_gives p4 0 (rv_one rfl (r1_tmp rfl)) ?_ rfl
 rfl
theorem rd_mod {w w':World} {B:Nat→Prop} {R:Res} (h:Rd (fun k=>k < w.heap.size∧¬ B k) w R) (hm:Mod B w w'):Has w' R:=by
 obtain⟨C,hC,hA⟩:=h
 exact⟨C,fun k hk=>Nat.lt_of_lt_of_le (hC k hk).1 hm.size,R.loc C w w' (fun k hk=>hm.same k (hC k hk).1 (hC k hk).2) hA⟩
def Ord (xs m:List Opn):Prop:=m.Perm xs∧m.Pairwise fun x y=>x.at_≤y.at_
theorem sortop_c (a:Option Addr) (cap:Nat) (l:List Opn) (w:World) (B:Nat→Prop) (hB:∀ i,B i→i < w.heap.size) (hA:(Row a 5 cap 98 encOpn l).A B w) (hs:l.length < 4611686018427387904) (cg:FuncId) (ccap:List Value) (hcg:En Tryz.prog cg) (R:Res) (hS:Rd (fun k=>k < w.heap.size∧¬ B k) w R) (hcc:∀ x y w',Has w' R→Calls Tryz.prog cg (#[.agg (encOpn x).toArray,.agg (encOpn y).toArray]++ccap.toArray) w' (Pure (.int .i64 (cmpI x.at_ y.at_)) w')) :
  Calls Tryz.prog 155 #[.slice a l.length cap,.func (.func cg) #[] ccap.toArray] w (Turns (fun _:List Opn=>.tuple #[]) (fun m=>Row a 5 cap 98 encOpn m) (Ord l) B w):=by
 have aE:∀ w,(isAgg (Tryz.sortOp_ren.t 24)).run Tryz.prog w=.ok true w:=fun w=>TF.agg tf98
 have zE:∀ w,(Go.sizeOf (Tryz.sortOp_ren.t 24)).run Tryz.prog w=.ok 5 w:=fun w=>TF.size tf98
 have hlt:∀ x y:Opn,Go.Proofs.ltOf (fun x y:Opn=>cmpI x.at_ y.at_) x y=decide (x.at_ < y.at_):=fun x y=>by
  unfold Go.Proofs.ltOf
  rw [decide_eq_decide]
  show cmpI x.at_ y.at_ < 0↔_
  unfold cmpI
  split
  ·omega
  ·split <;> omega
 refine(sort_permM Tryz.sortOp aE zE encOpn_ok (by decide) (fun x v hv=>oneCell_of (List.all_eq_true.1 (encOpn_ok.one x) v hv)) (fun x y:Opn=>cmpI x.at_ y.at_)
  ⟨fun x=>by rw [hlt,decide_eq_false_iff_not]; omega,fun x y z=>by simp only [hlt,decide_eq_true_eq]; omega,fun x y z=>by simp only [hlt,decide_eq_false_iff_not]; omega⟩ cg ccap hcg (fun x y w' hm=>hcc x y w' (rd_mod hS hm)) hB hA hs).mono ?_
 rintro e w' ⟨m,B',h1,⟨h2,h3⟩,h4,h5,h6⟩
 exact⟨m,B',h1,⟨h2,h3.imp fun {x y} h=>by rw [hlt,decide_eq_false_iff_not] at h; omega⟩,h4,h5,h6⟩
set_option maxRecDepth 100000 in
set_option maxHeartbeats 1000000 in
theorem sortedf_c (xs:List Opn) (gg:FuncId) (gcap:List Value) (cg:FuncId) (ccap:List Value) (hcg:En Tryz.prog cg) (R:Res) (w:World) (hs:Small xs.length) (M:World→Prop) (hM:∀ w',Ext w w'→M w') (hen:En Tryz.prog gg) (hseq:SeqC Tryz.prog gg gcap (xs.map oneOp) M) (hS:Has w R) (hcc:∀ x y w',Has w' R→Calls Tryz.prog cg (#[.agg (encOpn x).toArray,.agg (encOpn y).toArray]++ccap.toArray) w' (Pure (.int .i64 (cmpI x.at_ y.at_)) w')) :
  Calls Tryz.prog 136 #[.func (.func gg) #[] gcap.toArray,.func (.func cg) #[] ccap.toArray] w (Gives (fun z:{z:Option Addr×Nat×List Opn // Ord xs z.2.2}=>.slice z.1.1 z.1.2.2.length z.1.2.1) (fun z=>Row z.1.1 5 z.1.2.1 98 encOpn z.1.2.2) w):=by
 refine calls_of_gk (vs:=[_,_]) Tryz.func136 rfl rfl (Nat.le_of_ble_eq_true rfl) ?_
 refine gk_seq ?_
 refine gk_region ?_
 refine gk_y rfl rfl (y_assign rfl) ?_
 refine gk_nil (gk_sub (T':=[(0,_),(1,_),(4,_)]) ⟨rfl,rfl,rfl,trivial⟩ ?_)
 refine gk_seq ?_
 refine gk_region ?_
 refine gk_y rfl rfl (y_move rfl) ?_
 refine gk_yx rfl rfl (yx_call en154 rfl (fun w hw=>collect_c xs _ _ w (by assumption) M (fun w' hx=>hM w' (hw.base.ext0.trans hx)) hen hseq)) fun p7=>?_
 refine gk_y rfl rfl (y_assign rfl) ?_
 refine gk_nil (gk_sub (T':=[(1,_),(4,_),(5,_)]) ⟨rfl,rfl,rfl,trivial⟩ ?_)
 refine gk_seq ?_
 refine gk_region ?_
 refine gk_y rfl rfl (y_move rfl) ?_
 refine gk_y rfl rfl (y_move rfl) ?_
 refine gk_callU 0 en155 rfl rfl rfl (fun w B hF=>sortop_c _ _ xs w B (fun k hk=>(hF.own k hk).2) hF.A (by unfold Small at hs; omega) cg ccap hcg R (hF.rd (Has.rd hS)) hcc) fun m10 hq10=>?_
 refine gk_nil (gk_sub (T':=[(4,_),(5,_)]) ⟨rfl,rfl,trivial⟩ ?_)
 refine gk_seq ?_
 refine gk_region ?_
 refine gk_y rfl rfl (y_move rfl) ?_
 refine gk_y rfl rfl (y_assign rfl) ?_
 refine gk_nil (gk_sub (T':=[(4,_)]) ⟨rfl,trivial⟩ ?_)
 refine gk_ret ?_
 refine gk_gives ⟨(p7.1,p7.2,m10),hq10⟩ 0 (rv_one rfl (r1_tmp rfl)) ?_ rfl
 show Value.slice p7.1 xs.length p7.2=Value.slice p7.1 m10.length p7.2
 rw [hq10.1.length_eq]
end Go.Proofs.YtdcfcfhmkfkgmaaGreatDoor
namespace Go.Proofs.YtdcfcfhmkfkgmaaGreatDoor
open Go.K Go.Stn Go.Pln Go.RowKit
theorem tf59:TF Tryz.prog 59 false 1 (.slice none 0 0):=⟨by kernel_rfl,by kernel_rfl⟩
theorem af59:AF Tryz.prog 59 69 2 16 [.int IntKind.i64 0,.int IntKind.i64 0]:=⟨Tryz.underlying59,by kernel_rfl,rfl⟩
theorem en136:En Tryz.prog 136:=en_of Tryz.func136 (by kernel_rfl) (by kernel_rfl)
theorem en137:En Tryz.prog 137:=en_of Tryz.func137 (by kernel_rfl) (by kernel_rfl)
theorem en138:En Tryz.prog 138:=en_of Tryz.func138 (by kernel_rfl) (by kernel_rfl)
theorem en140:En Tryz.prog 140:=en_of Tryz.func140 (by kernel_rfl) (by kernel_rfl)
theorem en156:En Tryz.prog 156:=en_of Tryz.func156 (by kernel_rfl) (by kernel_rfl)
theorem bd69_0i_1i (x0:Int) (x1:Int) (w:World):(Instr.build 69 #[(0,.int .i64 x0),(1,.int .i64 x1)]).run Tryz.prog w=.ok (.agg #[.int .i64 x0,.int .i64 x1]) w:=by kernel_rfl
theorem bs59_1 (x0_0:Int) (x0_1:Int) (w:World):(Instr.buildSlice 59 1 #[(0,.agg #[.int .i64 x0_0,.int .i64 x0_1])]).run Tryz.prog w=.ok (.slice (some ⟨w.heap.size,0,none⟩) 1 1) (w.alloc (.cells (([⟨x0_0,x0_1⟩]:List (Crs)).flatMap encCrs).toArray 69)):=by kernel_rfl
set_option maxRecDepth 100000 in
set_option maxHeartbeats 1000000 in
theorem parts2_c (p q:Nat) (a:Int) (m:List Crs) (t:Int) (w:World) (B:Nat→Prop) (hB:∀ k,B k→k < w.heap.size) (hA:(SwR 3 59 69 p q a m).A B w) (hm:m.length≤100000) :
  Calls Tryz.prog 140 #[.int .i64 t,.pointer (some ⟨p,0,none⟩),.pointer (some ⟨q,0,none⟩)] w (Turns (fun _:Unit=>.tuple #[]) (fun _=>SwR 3 59 69 p q a (swM a t m)) (fun _=>True) B w):=by
 refine calls_of_gkB hB hA (vs:=[_,_,_]) Tryz.func140 rfl rfl (Nat.le_of_ble_eq_true rfl) ?_
 refine gk_openSw fun ra1 rc1=>?_
 refine gk_seq ?_
 refine gk_region ?_
 refine gk_y rfl rfl (y_move rfl) ?_
 refine gk_y rfl rfl (y_loadB1 0 tf3 rfl rfl rfl) ?_
 refine gk_y rfl rfl (y_gtr rfl rfl) ?_
 refine gk_nil (gk_sub (T':=[(0,_),(1,_),(2,_),(6,_)]) ⟨rfl,rfl,rfl,rfl,trivial⟩ ?_)
 refine gk_cond rfl (fun hc6=>?_) (fun hc6=>?_)
 ·
  refine gk_region ?_
  refine gk_y rfl rfl (y_loadB1 1 tf59 rfl rfl rfl) ?_
  refine gk_y rfl rfl (y_loadB1 0 tf3 rfl rfl rfl) ?_
  refine gk_y rfl rfl (y_move rfl) ?_
  refine gk_y rfl rfl (y_buildL rfl (bd69_0i_1i _ _)) ?_
  refine gk_yx rfl rfl (yx_buildSlice rfl (bs59_1 _ _) encCrs_ok rfl) fun b11=>?_
  refine gk_append (m:=[(⟨a,t⟩:Crs)]) 3 af59 encCrs_ok rfl rfl rfl rfl (fun _ hw=>(has_row encCrs_ok (hw.has (p:=0) rfl))) (by first | omega | (simp only [List.length_cons,List.length_nil]; omega)) (by first | (unfold maxLen; omega) | (simp only [List.length_cons,List.length_nil,maxLen]; omega)) fun a12 c12=>?_
  refine gk_storeV 2 tf59 rfl rfl (vs:=[_]) rfl rfl rfl rfl rfl ?_
  refine gk_nil (gk_sub (T':=[]) trivial ?_)
  refine gk_front 3 rfl ?_
  refine gk_front 3 rfl ?_
  refine gk_front 3 rfl ?_
  refine gk_closeSw (a:=a) ?_
  exact gk_turns () 0 (rv_none rfl) rfl (by rw [←sw_yes hc6]; rfl) trivial
 ·
  refine gk_skip ?_
  refine gk_front 2 rfl ?_
  refine gk_front 2 rfl ?_
  refine gk_front 2 rfl ?_
  refine gk_closeSw (a:=a) ?_
  exact gk_turns () 0 (rv_none rfl) rfl (by rw [←sw_no hc6]; rfl) trivial
set_option maxRecDepth 100000 in
set_option maxHeartbeats 1000000 in
theorem values_c (a:Option Addr) (cap:Nat) (l:List Opn) (w:World)  :
  Calls Tryz.prog 137 #[.slice a l.length cap] w (Gives (fun b:Nat=>.func (.func 156) #[] #[.pointer (some ⟨b,0,none⟩)]) (fun b=>Box b [.slice a l.length cap] 92) w):=by
 refine calls_of_gk (vs:=[_]) Tryz.func137 rfl rfl (Nat.le_of_ble_eq_true rfl) ?_
 refine gk_seq ?_
 refine gk_region ?_
 refine gk_yx rfl rfl (yx_box (vs:=[_]) rfl rfl) fun b1=>?_
 refine gk_y rfl rfl (y_assign rfl) ?_
 refine gk_nil (gk_sub (T':=[(1,_),(2,_)]) ⟨rfl,rfl,trivial⟩ ?_)
 refine gk_seq ?_
 refine gk_region ?_
 refine gk_y rfl rfl (y_makeFunc («as»:=[]) (bs:=[_]) rfl rfl) ?_
 refine gk_y rfl rfl (y_assign rfl) ?_
 refine gk_nil (gk_sub (T':=[(2,_)]) ⟨rfl,trivial⟩ ?_)
 refine gk_ret ?_
 refine gk_gives b1 0 (rv_one rfl (r1_tmp rfl)) ?_ rfl
 rfl
set_option maxRecDepth 100000 in
set_option maxHeartbeats 4000000 in
theorem parts_c (L:Int) (a:Option Addr) (cap:Nat) (l:List Opn) (w:World) (hl:Has w (Elems a 5 encOpn l)) (hs:Small l.length) (hL0:0≤L) (hL:L≤100000) (hw:InW l L) :
  Calls Tryz.prog 119 #[.int .i64 L,.slice a l.length cap,.func (.func 120) #[] #[]] w (Gives (fun z:Option Addr×Nat=>.slice z.1 (bayL (freeB l) L).length z.2) (fun z=>Row z.1 2 z.2 69 encCrs (bayL (freeB l) L)) w):=by
 have hwin:=hw
 refine calls_of_gk (vs:=[_,_,_]) Tryz.func119 rfl rfl (Nat.le_of_ble_eq_true rfl) ?_
 refine gk_seq ?_
 refine gk_region ?_
 refine gk_yx rfl rfl (yx_box (vs:=[_]) rfl rfl) fun b5=>?_
 refine gk_y rfl rfl (y_assign rfl) ?_
 refine gk_nil (gk_sub (T':=[(0,_),(1,_),(5,_),(6,_)]) ⟨rfl,rfl,rfl,rfl,trivial⟩ ?_)
 refine gk_seq ?_
 refine gk_region ?_
 refine gk_y rfl rfl (y_move rfl) ?_
 refine gk_yx rfl rfl (yx_call en137 rfl (fun w hw=>values_c _ _ l w)) fun p15=>?_
 refine gk_y rfl rfl (y_makeFunc («as»:=[]) (bs:=[_]) rfl rfl) ?_
 refine gk_yx rfl rfl (yx_call en136 rfl (fun w hw=>sortedf_c l 156 _ 138 _ en138 (Box b5 [.func (.func 120) #[] #[]] 191) w (by assumption) (fun w'=>Has w' (Box p15 [.slice a l.length cap] 92)∧Has w' (Elems a 5 encOpn l)) (fun w' hx=>⟨Has.ext (hw.has (p:=0) rfl) hx,Has.ext (Rd.has (Has.rd hl) hw) hx⟩) en156 (values1_c l a cap p15 (by assumption)) (hw.has (p:=1) rfl) (fun x y w' hb=>parts1_c x y b5 w' hb))) fun p17=>?_
 refine gk_y rfl rfl (y_assign rfl) ?_
 refine gk_nil (gk_sub (T':=[(0,_),(1,_),(5,_),(6,_)]) ⟨rfl,rfl,rfl,rfl,trivial⟩ ?_)
 have hwz:InW p17.1.2.2 L:=fun o ho=>hwin o (p17.2.1.mem_iff.1 ho)
 have hsz:=p17.2.2
 have hlz:p17.1.2.2.length=l.length:=p17.2.1.length_eq
 refine gk_seq ?_
 refine gk_region ?_
 refine gk_yx rfl rfl (yx_alloc tf59 (zs:=[_]) rfl) fun b7=>?_
 refine gk_nil (gk_sub (T':=[(0,_),(1,_),(5,_),(6,_),(7,_)]) ⟨rfl,rfl,rfl,rfl,rfl,trivial⟩ ?_)
 refine gk_seq ?_
 refine gk_region ?_
 refine gk_yx rfl rfl (yx_alloc tf3 (zs:=[_]) rfl) fun b8=>?_
 refine gk_storeV 0 tf3 rfl rfl (vs:=[_]) rfl rfl rfl rfl rfl ?_
 refine gk_nil (gk_sub (T':=[(0,_),(1,_),(5,_),(6,_),(7,_),(8,_)]) ⟨rfl,rfl,rfl,rfl,rfl,rfl,trivial⟩ ?_)
 refine gk_seq ?_
 refine gk_region ?_
 refine gk_y rfl rfl (y_makeFunc («as»:=[]) (bs:=[_,_]) rfl rfl) ?_
 refine gk_y rfl rfl (y_assign rfl) ?_
 refine gk_nil (gk_sub (T':=[(0,_),(1,_),(5,_),(6,_),(7,_),(8,_),(9,_)]) ⟨rfl,rfl,rfl,rfl,rfl,rfl,rfl,trivial⟩ ?_)
 refine gk_seq ?_
 refine gk_seq ?_
 refine gk_region ?_
 refine gk_y rfl rfl (y_move rfl) ?_
 refine gk_y rfl rfl (y_lenS (Tryz.underlying92) rfl) ?_
 refine gk_y rfl rfl (y_move rfl) ?_
 refine gk_nil (gk_sub (T':=[(0,_),(5,_),(6,_),(7,_),(8,_),(9,_),(19,_),(20,_),(21,_)]) ⟨rfl,rfl,rfl,rfl,rfl,rfl,rfl,rfl,rfl,trivial⟩ ?_)
 refine gk_newNil 69 encCrs 2 ?_
 refine gk_front 2 rfl ?_
 refine gk_front 2 rfl ?_
 refine gk_closeSw (a:=0) (m:=[]) ?_
 refine gk_block ?_
 refine gk_loop (X:=Int×Int×List Crs) (fun⟨i,a2,m⟩=>[(0,.int .i64 L),(5,.pointer (some ⟨b5,0,none⟩)),(6,.slice none 0 0),(7,.pointer (some ⟨b7,0,none⟩)),(8,.pointer (some ⟨b8,0,none⟩)),(9,.func (.func 140) #[] #[.pointer (some ⟨b8,0,none⟩),.pointer (some ⟨b7,0,none⟩)]),(19,.slice p17.1.1 p17.1.2.2.length p17.1.2.1),(20,.int .i64 (p17.1.2.2.length:Int)),(21,.int .i64 i)]) (fun⟨i,a2,m⟩=>[SwR 3 59 69 b8 b7 a2 m,Row p17.1.1 5 p17.1.2.1 98 encOpn p17.1.2.2,Box p15 [.slice a l.length cap] 92,Box b5 [.func (.func 120) #[] #[]] 191]) (fun⟨i,a2,m⟩=>(0≤i∧i≤p17.1.2.2.length∧SwI p17.1.2.2 L i.toNat a2 m)) (fun⟨i,a2,m⟩=>(p17.1.2.2.length - i).toNat) (0,0,[]) ⟨rfl,rfl,rfl,rfl,rfl,rfl,rfl,rfl,rfl,trivial⟩ rfl ?_ ?_
 ·exact⟨by omega,by omega,sw_start _ hL0⟩
 ·rintro ⟨i,a2,m⟩ hI
  obtain⟨g0,g1,g2⟩:=hI
  have hml:=g2.many
  refine gk_seq ?_
  refine gk_region ?_
  refine gk_y rfl rfl (y_lss rfl rfl) ?_
  refine gk_nil (gk_sub (T':=[(0,_),(5,_),(6,_),(7,_),(8,_),(9,_),(19,_),(20,_),(21,_),(22,_)]) ⟨rfl,rfl,rfl,rfl,rfl,rfl,rfl,rfl,rfl,rfl,trivial⟩ ?_)
  refine gk_seq ?_
  refine gk_cond rfl (fun hc22=>?_) (fun hc22=>?_)
  ·have hc22:=of_decide_eq_true hc22
   obtain⟨q1,q2,q3⟩:=hwz (p17.1.2.2.getD i.toNat default) (getD_memS (by omega))
   refine gk_skip ?_
   refine gk_seq ?_
   refine gk_block ?_
   refine gk_seq ?_
   refine gk_region ?_
   refine gk_y rfl rfl (y_indexE se92 rfl rfl (fun _ hw=>(has_row encOpn_ok (hw.has (p:=1) rfl))) (by omega) (by omega)) ?_
   refine gk_y rfl rfl (y_loadE (vs:=[_,_,_,_,_]) tf98 rfl (fun _ hw=>(has_row encOpn_ok (hw.has (p:=1) rfl))) (by omega) (by omega) rfl) ?_
   refine gk_yx rfl rfl (yx_alloc tf98 (zs:=[_,_,_,_,_]) rfl) fun b11=>?_
   refine gk_storeV 0 tf98 rfl rfl (vs:=[_,_,_,_,_]) rfl rfl rfl rfl rfl ?_
   refine gk_nil (gk_sub (T':=[(0,_),(5,_),(6,_),(7,_),(8,_),(9,_),(11,_),(19,_),(20,_),(21,_)]) ⟨rfl,rfl,rfl,rfl,rfl,rfl,rfl,rfl,rfl,rfl,trivial⟩ ?_)
   refine gk_seq ?_
   refine gk_region ?_
   refine gk_y rfl rfl (y_loadB1 4 tf191 rfl rfl rfl) ?_
   refine gk_y rfl rfl (y_loadBA 0 tf98 rfl rfl (vs:=[_,_,_,_,_]) rfl rfl) ?_
   refine gk_y rfl rfl (y_callV (fs:=[]) (cap:=[]) en120 rfl rfl (fun w hw=>span_c (p17.1.2.2.getD (i).toNat default) w)) ?_
   refine gk_y rfl rfl (y_move rfl) ?_
   refine gk_y rfl rfl (y_extract rfl rfl) ?_
   refine gk_y rfl rfl (y_extract rfl rfl) ?_
   refine gk_y rfl rfl (y_assign rfl) ?_
   refine gk_y rfl rfl (y_assign rfl) ?_
   refine gk_nil (gk_sub (T':=[(0,_),(5,_),(6,_),(7,_),(8,_),(9,_),(12,_),(13,_),(19,_),(20,_),(21,_)]) ⟨rfl,rfl,rfl,rfl,rfl,rfl,rfl,rfl,rfl,rfl,rfl,trivial⟩ ?_)
   refine gk_sub (T':=[(0,_),(5,_),(6,_),(7,_),(8,_),(9,_),(12,_),(13,.int .i64 ((p17.1.2.2.getD i.toNat default).at_+(p17.1.2.2.getD i.toNat default).width)),(19,_),(20,_),(21,_)]) ⟨rfl,rfl,rfl,rfl,rfl,rfl,rfl,(by show some (Value.int .i64 (W ((p17.1.2.2.getD i.toNat default).at_+(p17.1.2.2.getD i.toNat default).width)))=_; rw [wrap_in (by omega) (by omega)]),rfl,rfl,rfl,trivial⟩ ?_
   refine gk_seq ?_
   refine gk_region ?_
   refine gk_y rfl rfl (y_move rfl) ?_
   refine gk_y rfl rfl (y_move rfl) ?_
   refine gk_callVU (fs:=[]) (cap:=[_,_]) 1 en140 rfl rfl rfl rfl (fun w B hF=>parts2_c _ _ _ _ _ w B (fun k hk=>(hF.own k hk).2) hF.A (by omega)) fun u33 hq33=>?_
   refine gk_nil (gk_sub (T':=[(0,_),(5,_),(6,_),(7,_),(8,_),(9,_),(13,_),(19,_),(20,_),(21,_)]) ⟨rfl,rfl,rfl,rfl,rfl,rfl,rfl,rfl,rfl,rfl,trivial⟩ ?_)
   refine gk_front 1 rfl ?_
   refine gk_openSw fun ra2 rc2=>?_
   refine gk_region ?_
   refine gk_y rfl rfl (y_loadB1 0 tf3 rfl rfl rfl) ?_
   refine gk_y rfl rfl (y_move rfl) ?_
   refine gk_y rfl rfl (y_max rfl rfl) ?_
   refine gk_storeV 0 tf3 rfl rfl (vs:=[_]) rfl rfl rfl rfl rfl ?_
   refine gk_nil (gk_sub (T':=[(0,_),(5,_),(6,_),(7,_),(8,_),(9,_),(19,_),(20,_),(21,_)]) ⟨rfl,rfl,rfl,rfl,rfl,rfl,rfl,rfl,rfl,trivial⟩ ?_)
   refine gk_front 2 rfl ?_
   refine gk_front 2 rfl ?_
   refine gk_front 2 rfl ?_
   refine gk_closeSw (a:=(max a2 ((p17.1.2.2.getD i.toNat default).at_+(p17.1.2.2.getD i.toNat default).width))) (m:=(swM a2 (p17.1.2.2.getD i.toNat default).at_ m)) ?_
   refine gk_region ?_
   refine gk_y rfl rfl (y_addI rfl rfl (by omega) (by omega)) ?_
   refine gk_y rfl rfl (y_move rfl) ?_
   refine gk_nil (gk_sub (T':=[(0,_),(5,_),(6,_),(7,_),(8,_),(9,_),(19,_),(20,_),(21,_)]) ⟨rfl,rfl,rfl,rfl,rfl,rfl,rfl,rfl,rfl,trivial⟩ ?_)
   refine gk_dropAt 1 rfl ?_
   exact gk_next (i+1,max a2 ((p17.1.2.2.getD i.toNat default).at_+(p17.1.2.2.getD i.toNat default).width),swM a2 (p17.1.2.2.getD i.toNat default).at_ m) ⟨rfl,rfl,rfl,rfl,rfl,rfl,rfl,rfl,rfl,trivial⟩ rfl ⟨by omega,by omega,by rw [show(i+1).toNat=i.toNat+1 from by omega]; exact sw_next hwz hsz g2 (by omega)⟩ (by simp only []; omega)
  ·have hc22:=of_decide_eq_false hc22
   have hend:swM a2 L m=bayL (freeB l) L:=by rw [sw_end g2 (by omega),freeB_perm p17.2.1]
   refine gk_exit rfl ?_
   refine gk_seq ?_
   refine gk_region ?_
   refine gk_y rfl rfl (y_move rfl) ?_
   refine gk_y rfl rfl (y_move rfl) ?_
   refine gk_callVU (fs:=[]) (cap:=[_,_]) 0 en140 rfl rfl rfl rfl (fun w B hF=>parts2_c _ _ _ _ _ w B (fun k hk=>(hF.own k hk).2) hF.A (by omega)) fun u40 hq40=>?_
   refine gk_nil (gk_sub (T':=[(6,_),(7,_)]) ⟨rfl,rfl,trivial⟩ ?_)
   refine gk_openSw fun ra3 rc3=>?_
   refine gk_seq ?_
   refine gk_region ?_
   refine gk_y rfl rfl (y_loadB1 1 tf59 rfl rfl rfl) ?_
   refine gk_y rfl rfl (y_assign rfl) ?_
   refine gk_nil (gk_sub (T':=[(6,_)]) ⟨rfl,trivial⟩ ?_)
   refine gk_ret ?_
   refine gk_gives (ra3,rc3) 2 (rv_one rfl (r1_tmp rfl)) ?_ (by rw [←hend]; rfl)
   rw [←hend]
end Go.Proofs.YtdcfcfhmkfkgmaaGreatDoor
namespace Go.Pln
open Go Go.K Go.RowKit Go.Stn
structure WallF (v:Wll) (top:Int):Prop where
 len:1≤v.length∧v.length≤100000
 num:v.opens.length≤20
 fit:∀ o∈v.opens,FitsF v.length top o
theorem wall_facts {v:Wll} {top:Int} (h:wallB top v=true):WallF v top:=by
 have h0:=wallB_0 h
 obtain⟨h1,h2⟩:=wall0_len h0
 refine⟨h1,h2,fun o ho=>?_⟩
 rw [wallB_eq,Bool.and_eq_true] at h
 obtain⟨i,hi,rfl⟩:=List.getElem_of_mem ho
 have:=openAt_fits (allI_iff.1 h.2 i hi)
 simpa [hi] using this
theorem WallF.inW {v:Wll} {top:Int} (h:WallF v top) (p:Opn→Bool):InW (v.opens.filter p) v.length:=fun o ho=>by
 have hf:=h.fit o (List.mem_filter.1 ho).1
 exact⟨hf.a.1,hf.w.1,hf.a.2⟩
theorem off_not {α:Type} (p:α→Bool) (l:List α):offL (fun x=>!p x) l=l.filter p:=by
 unfold offL
 congr 1
 funext x
 rw [Bool.not_not]
def inCrsW (c:Crs) (o:Opn):Bool:=decide (o.frm < c.to)&&decide (c.frm < W (o.frm+o.high))
def inTopW (h:Int) (o:Opn):Bool:=decide (W (o.frm+o.high)=h)
theorem baysP_congr {v:Wll} {p q:Opn→Bool} (h:∀ o∈v.opens,p o=q o):baysP p v=baysP q v:=by
 unfold baysP
 rw [List.filter_congr h]
theorem bays_crs {v:Wll} {top:Int} (h:WallF v top) (ht:top≤3000) (c:Crs):baysP (inCrsW c) v=baysC v c:=baysP_congr fun o ho=>by
 have hf:=(h.fit o ho)
 have h1:=hf.h; have h2:=hf.f
 unfold inCrsW inCrs
 rw [wrap_in (by omega) (by omega)]
theorem bays_top {v:Wll} {s:Sht} (h:WallF v s.height) (ht:s.height≤3000):baysP (inTopW s.height) v=baysT v s:=baysP_congr fun o ho=>by
 have hf:=(h.fit o ho)
 have h1:=hf.h; have h2:=hf.f
 unfold inTopW inTop
 rw [wrap_in (by omega) (by omega)]
theorem baysP_runs {v:Wll} {top:Int} (h:WallF v top) (p:Opn→Bool):Runs (freeB (v.opens.filter p)) v.length 0 (baysP p v):=bayL_runs _ (by have:=h.len; omega)
theorem baysP_num {v:Wll} {top:Int} (h:WallF v top) (p:Opn→Bool):((baysP p v).length:Int)≤100000:=by
 have h1:=h.len
 have:=runs_num (by omega) (baysP_runs h p)
 omega
theorem bay_in {v:Wll} {top:Int} (h:WallF v top) {p:Opn→Bool} {i:Int} (h0:0≤i) (h1:i < ((baysP p v).length:Int)):0≤((baysP p v).getD i.toNat default).frm∧((baysP p v).getD i.toNat default).frm < ((baysP p v).getD i.toNat default).to∧((baysP p v).getD i.toNat default).to≤v.length:=by
 obtain⟨a,b,c,_⟩:=runs_mem (baysP_runs h p) _ (getD_memS (l:=baysP p v) (i:=i.toNat) (by omega))
 exact⟨a,b,c⟩
def findE (S:List ShC) (V:List WlC) (n:ByteArray):Int:=if planP S V=true then(if 0≤wallI V n then 0 else 6) else 2
def getWl (V:List WlC) (n:ByteArray):WlC:=if 0≤wallI V n then V.getD (wallI V n).toNat default else default
def theWl (S:List ShC) (V:List WlC) (n:ByteArray):WlC:=if findE S V n=0 then getWl V n else default
def theSh (S:List ShC) (V:List WlC) (n:ByteArray):ShC:=if findE S V n=0 then getSh S (getWl V n).s.sheet else default
theorem find_bad {S:List ShC} {V:List WlC} {n:ByteArray} (h:¬ planP S V=true):findE S V n=2:=if_neg h
theorem find_none {S:List ShC} {V:List WlC} {n:ByteArray} (h:planP S V=true) (h2:¬ 0≤wallI V n):findE S V n=6:=by unfold findE; rw [if_pos h,if_neg h2]
theorem find_ok {S:List ShC} {V:List WlC} {n:ByteArray} (h:planP S V=true) (h2:0≤wallI V n):findE S V n=0:=by unfold findE; rw [if_pos h,if_pos h2]
theorem find_inv {S:List ShC} {V:List WlC} {n:ByteArray} (h:findE S V n=0):planP S V=true∧0≤wallI V n:=by
 unfold findE at h
 by_cases h1:planP S V=true
 ·rw [if_pos h1] at h
  refine⟨h1,?_⟩
  by_cases h2:0≤wallI V n
  ·exact h2
  ·rw [if_neg h2] at h; exact absurd h (by decide)
 ·rw [if_neg h1] at h; exact absurd h (by decide)
theorem getWl_mem {V:List WlC} {n:ByteArray} (h:0≤wallI V n):getWl V n∈V:=by
 unfold getWl
 rw [if_pos h]
 exact getD_memS (by have:=wallI_lt h; omega)
theorem theWl_eq {S:List ShC} {V:List WlC} {n:ByteArray} (h:findE S V n=0):theWl S V n=getWl V n:=if_pos h
theorem theSh_eq {S:List ShC} {V:List WlC} {n:ByteArray} (h:findE S V n=0):theSh S V n=getSh S (getWl V n).s.sheet:=if_pos h
theorem the_facts {S:List ShC} {V:List WlC} {n:ByteArray} (h:findE S V n=0):theWl S V n∈V∧theSh S V n∈S∧sheetP (theSh S V n).s=true∧WallF (theWl S V n).s (theSh S V n).s.height:=by
 obtain⟨h1,h2⟩:=find_inv h
 rw [theWl_eq h,theSh_eq h]
 obtain⟨h3,h4⟩:=planP_walls h1 _ (getWl_mem h2)
 exact⟨getWl_mem h2,getSh_mem h3,planP_sheets h1 _ (getSh_mem h3),wall_facts h4⟩
end Go.Pln
namespace Go.Pln
open Go Go.K Go.RowKit Go.Stn
def baysE (S:List ShC) (V:List WlC) (n:ByteArray) (k:Int):Int:=if findE S V n=0 then(if k < 0∨((coursesL (theSh S V n).s).length:Int)≤k then 3 else 0) else findE S V n
def baysA (S:List ShC) (V:List WlC) (n:ByteArray) (k:Int):List Crs:=if baysE S V n k=0 then baysC (theWl S V n).s ((coursesL (theSh S V n).s).getD k.toNat default) else []
theorem baysE_no {S:List ShC} {V:List WlC} {n:ByteArray} {k:Int} (h:¬ findE S V n=0):baysE S V n k=findE S V n∧baysA S V n k=[]:=by
 have h1:baysE S V n k=findE S V n:=if_neg h
 exact⟨h1,by unfold baysA; rw [h1,if_neg h]⟩
theorem baysE_out {S:List ShC} {V:List WlC} {n:ByteArray} {k:Int} (h:findE S V n=0) (hk:k < 0∨((coursesL (theSh S V n).s).length:Int)≤k):baysE S V n k=3∧baysA S V n k=[]:=by
 have h1:baysE S V n k=3:=by unfold baysE; rw [if_pos h,if_pos hk]
 exact⟨h1,by unfold baysA; rw [h1]; rfl⟩
theorem baysE_in {S:List ShC} {V:List WlC} {n:ByteArray} {k:Int} (h:findE S V n=0) (hk:¬ (k < 0∨((coursesL (theSh S V n).s).length:Int)≤k)):baysE S V n k=0∧baysA S V n k=baysC (theWl S V n).s ((coursesL (theSh S V n).s).getD k.toNat default):=by
 have h1:baysE S V n k=0:=by unfold baysE; rw [if_pos h,if_neg hk]
 exact⟨h1,by unfold baysA; rw [h1]; rfl⟩
def thrAA (S:List ShC) (V:List WlC) (n:ByteArray):Int:=if findE S V n=0 then thrAt (theSh S V n).s else 0
def thrLA (S:List ShC) (V:List WlC) (n:ByteArray):List Int:=if findE S V n=0 then thrL (theWl S V n).s (theSh S V n).s else []
def copesA (S:List ShC) (V:List WlC) (n:ByteArray):List Cpe:=if findE S V n=0 then copesL (theWl S V n).s (theSh S V n).s else []
def takeA (S:List ShC) (V:List WlC) (n:ByteArray):Qnt:=if findE S V n=0 then takeQ (theWl S V n).s (theSh S V n).s else⟨0,0,0,0,0,0,0⟩
end Go.Pln
namespace Go.Pln
open Go Go.K Go.RowKit Go.Stn
theorem sheetP_ok {s:Sht} (h:sheetP s=true):badP s=false:=by
 unfold sheetP at h
 rw [Bool.and_eq_true,Bool.not_eq_true'] at h
 exact h.1
theorem every_in {s:Sht} (h:sheetP s=true) (h1:¬ s.every=0):1≤s.every∧s.every≤100000:=by
 have hb:=sheetP_ok h
 unfold badP at hb
 simp only [Bool.or_eq_false_iff,Bool.not_eq_false'] at hb
 have h2:=hb.1.1.1.2
 rw [through_iff] at h2
 unfold throughB at h2
 simp only [Bool.or_eq_true,Bool.and_eq_true,decide_eq_true_eq,in_iff] at h2
 omega
theorem cope_in {s:Sht} (h:sheetP s=true) (h1:¬ s.cope=0):(1≤s.thick∧s.thick≤1000)∧(1≤s.tall∧s.tall≤1000)∧(1≤otherH s∧otherH s≤1000):=by
 have hb:=sheetP_ok h
 unfold badP at hb
 simp only [Bool.or_eq_false_iff,Bool.not_eq_false'] at hb
 have h2:=hb.2
 unfold copedP at h2
 rw [if_neg h1] at h2
 unfold otherH
 split at h2
 ·rename_i h3
  simp only [kept_cons,kept_nil,Bool.and_true,Bool.and_eq_true,in_iff] at h2
  rw [if_neg (by omega)]
  omega
 ·split at h2
  ·rename_i h3
   simp only [kept_cons,kept_nil,Bool.and_true,Bool.and_eq_true,in_iff] at h2
   rw [if_pos h3]
   omega
  ·cases h2
end Go.Pln
namespace Go.K
open Go
def Two (R S:Res):Res where
 A B w:=∃ C D,(∀ k,C k→B k)∧(∀ k,D k→B k)∧R.A C w∧S.A D w
 loc B w w' h hA:=by
  obtain⟨C,D,hC,hD,a,b⟩:=hA
  exact⟨C,D,hC,hD,R.loc C w w' (fun k hk=>h k (hC k hk)) a,S.loc D w w' (fun k hk=>h k (hD k hk)) b⟩
theorem has_fst {w:World} {R S:Res} (h:Has w (Two R S)):Has w R:=by
 obtain⟨B,hB,C,D,hC,hD,a,b⟩:=h
 exact⟨C,fun k hk=>hB k (hC k hk),a⟩
theorem has_snd {w:World} {R S:Res} (h:Has w (Two R S)):Has w S:=by
 obtain⟨B,hB,C,D,hC,hD,a,b⟩:=h
 exact⟨D,fun k hk=>hB k (hD k hk),b⟩
end Go.K
namespace Go.Proofs.YtdcfcfhmkfkgmaaGreatDoor
open Go.K Go.Stn Go.Pln Go.RowKit
theorem bs92_0  (w:World):(Instr.buildSlice 92 0 #[]).run Tryz.prog w=.ok (.slice (some ⟨w.heap.size,0,none⟩) 0 0) (w.alloc (.cells (([]:List (Opn)).flatMap encOpn).toArray 98)):=by kernel_rfl
theorem none_nil {α:Type} {k:Nat} {enc:α→List Value} {w:World} {a:Option Addr} {l:List α} (h:Has w (Elems a k enc l)) (hn:a.isNone=true):l=[]:=by
 obtain⟨B,_,hA⟩:=h
 rcases hA with h | ⟨b,off,ha,_⟩
 ·exact h
 ·rw [ha] at hn; cases hn
set_option maxRecDepth 100000 in
set_option maxHeartbeats 1000000 in
theorem cloneo_c (a:Option Addr) (cap:Nat) (l:List Opn) (w:World) (hl:Has w (Elems a 5 encOpn l)) (hs:Small l.length) :
  Calls Tryz.prog 68 #[.slice a l.length cap] w (Gives (fun z:Option Addr×Nat=>.slice z.1 l.length z.2) (fun z=>Row z.1 5 z.2 98 encOpn l) w):=by
 refine calls_of_gk (vs:=[_]) Tryz.func68 rfl rfl (Nat.le_of_ble_eq_true rfl) ?_
 refine gk_seq ?_
 refine gk_region ?_
 refine gk_y rfl rfl (y_assign rfl) ?_
 refine gk_nil (gk_sub (T':=[(0,_),(2,_)]) ⟨rfl,rfl,trivial⟩ ?_)
 refine gk_seq ?_
 refine gk_seq ?_
 refine gk_region ?_
 refine gk_y rfl rfl (y_move rfl) ?_
 refine gk_y rfl rfl (y_eqNil (Tryz.underlying92) rfl rfl) ?_
 refine gk_nil (gk_sub (T':=[(0,_),(2,_),(4,_)]) ⟨rfl,rfl,rfl,trivial⟩ ?_)
 refine gk_cond rfl (fun hc4=>?_) (fun hc4=>?_)
 ·have hL:l=[]:=none_nil hl hc4
  subst hL
  refine gk_newNil 98 encOpn 5 ?_
  refine gk_seq ?_
  refine gk_region ?_
  refine gk_y rfl rfl (y_assign rfl) ?_
  refine gk_nil (gk_sub (T':=[(0,_),(2,_)]) ⟨rfl,rfl,trivial⟩ ?_)
  refine gk_ret ?_
  refine gk_gives (none,0) 0 (rv_one rfl (r1_tmp rfl)) ?_ rfl
  rfl
 ·
  refine gk_skip ?_
  refine gk_seq ?_
  refine gk_region ?_
  refine gk_yx rfl rfl (yx_buildSlice rfl (bs92_0) encOpn_ok rfl) fun b5=>?_
  refine gk_y rfl rfl (y_move rfl) ?_
  refine gk_append (m:=l) 0 af92 encOpn_ok rfl rfl rfl rfl (fun _ hw=>(Rd.has (Has.rd hl) hw)) (by unfold Small at hs; simp only [List.length_nil]; omega) (by unfold Small at hs; simp only [List.length_nil,maxLen]; omega) fun a7 c7=>?_
  refine gk_y rfl rfl (y_assign rfl) ?_
  refine gk_nil (gk_sub (T':=[(2,_)]) ⟨rfl,trivial⟩ ?_)
  refine gk_ret ?_
  refine gk_gives (a7,c7) 0 (rv_one rfl (r1_tmp rfl)) ?_ rfl
  rfl
set_option maxRecDepth 100000 in
set_option maxHeartbeats 2000000 in
theorem deletefunc_c (a:Option Addr) (cap:Nat) (l:List Opn) (f:Opn→Bool) (gg:FuncId) (gcap:List Value) (hen:En Tryz.prog gg) (R:Res) (w:World) (B:Nat→Prop) (hB:∀ k,B k→k < w.heap.size) (hA:(Row a 5 cap 98 encOpn l).A B w) (hs:Small l.length) (hR:Rd (fun k=>k < w.heap.size∧¬ B k) w R) (hg:∀ (o:Opn) w',Has w' R→Calls Tryz.prog gg ([Value.agg (encOpn o).toArray]++gcap).toArray w' (Pure (.bool (f o)) w')) :
  Calls Tryz.prog 117 #[.slice a l.length cap,.func (.func gg) #[] gcap.toArray] w (Turns (fun _:Unit=>.slice a (offL f l).length cap) (fun _=>Row a 5 cap 98 encOpn (offZ f l)) (fun _=>True) B w):=by
 have hsub:∀ n,subA a 5 0 n=a:=fun n=>row_sub0 hA
 have hcap:l.length≤cap:=Row.bounds hA
 refine calls_of_gkB hB hA (vs:=[_,_]) Tryz.func117 rfl rfl (Nat.le_of_ble_eq_true rfl) ?_
 refine gk_seq ?_
 refine gk_region ?_
 refine gk_y rfl rfl (y_assign rfl) ?_
 refine gk_nil (gk_sub (T':=[(0,_),(1,_),(4,_)]) ⟨rfl,rfl,rfl,trivial⟩ ?_)
 refine gk_seq ?_
 refine gk_region ?_
 refine gk_y rfl rfl (y_move rfl) ?_
 refine gk_y rfl rfl (y_move rfl) ?_
 refine gk_y rfl rfl (y_call en104 rfl (fun w hw=>indexfuncO_c _ _ l f _ [] _ w (has_row encOpn_ok (hw.has (p:=0) rfl)) (by assumption) (fun w'=>Has w' R) (fun w' hx=>Has.ext (Rd.has hR hw) hx) hen (fun z w' hm=>hg z w' hm))) ?_
 refine gk_y rfl rfl (y_assign rfl) ?_
 refine gk_nil (gk_sub (T':=[(0,_),(1,_),(4,_),(5,_)]) ⟨rfl,rfl,rfl,rfl,trivial⟩ ?_)
 refine gk_seq ?_
 refine gk_seq ?_
 refine gk_region ?_
 refine gk_y rfl rfl (y_move rfl) ?_
 refine gk_y rfl rfl (y_eql rfl rfl) ?_
 refine gk_nil (gk_sub (T':=[(0,_),(1,_),(4,_),(5,_),(12,_)]) ⟨rfl,rfl,rfl,rfl,rfl,trivial⟩ ?_)
 refine gk_cond rfl (fun hc12=>?_) (fun hc12=>?_)
 ·have hc12:=of_decide_eq_true hc12
  have hL:=off_none hc12
  refine gk_seq ?_
  refine gk_region ?_
  refine gk_y rfl rfl (y_move rfl) ?_
  refine gk_y rfl rfl (y_assign rfl) ?_
  refine gk_nil (gk_sub (T':=[(0,_),(1,_),(4,_),(5,_)]) ⟨rfl,rfl,rfl,rfl,trivial⟩ ?_)
  refine gk_sub (T':=[(0,_),(1,_),(4,.slice a (offL f l).length cap),(5,_)]) ⟨rfl,rfl,(by rw [hL]; rfl),rfl,trivial⟩ ?_
  refine gk_conv (R':=Row a 5 cap 98 encOpn (offZ f l)) 0 rfl (fun B w hA=>by unfold offZ; rw [hL,Nat.sub_self,List.replicate_zero,List.append_nil]; exact hA) ?_
  refine gk_ret ?_
  refine gk_turns () 0 (rv_one rfl (r1_tmp rfl)) rfl rfl trivial
 ·have hc12:=of_decide_eq_false hc12
  have hD:=off_start hc12
  have hi0:=hD.i0
  have hij:=hD.ij
  have hjl:=hD.jl
  refine gk_skip ?_
  refine gk_seq ?_
  refine gk_seq ?_
  refine gk_region ?_
  refine gk_y rfl rfl (y_move rfl) ?_
  refine gk_y rfl rfl (y_addI rfl rfl (by omega) (by omega)) ?_
  refine gk_y rfl rfl (y_assign rfl) ?_
  refine gk_nil (gk_sub (T':=[(0,_),(1,_),(4,_),(5,_),(6,_)]) ⟨rfl,rfl,rfl,rfl,rfl,trivial⟩ ?_)
  refine gk_block ?_
  refine gk_loop (X:=Int×Int×List Opn) (fun⟨i,j,m⟩=>[(0,.slice a l.length cap),(1,.func (.func gg) #[] gcap.toArray),(4,.slice none 0 0),(5,.int .i64 i),(6,.int .i64 j)]) (fun⟨i,j,m⟩=>[Row a 5 cap 98 encOpn m]) (fun⟨i,j,m⟩=>OffI f l m i j) (fun⟨i,j,m⟩=>(l.length - j).toNat) (findI f l,findI f l+1,l) ⟨rfl,rfl,rfl,rfl,rfl,trivial⟩ rfl ?_ ?_
  ·exact hD
  ·rintro ⟨i,j,m⟩ hI
   have hD:OffI f l m i j:=hI
   have hi0:=hD.i0
   have hij:=hD.ij
   have hjl:=hD.jl
   have hml:=hD.len
   refine gk_seq ?_
   refine gk_seq ?_
   refine gk_region ?_
   refine gk_y rfl rfl (y_move rfl) ?_
   refine gk_y rfl rfl (y_move rfl) ?_
   refine gk_y rfl rfl (y_lenS (Tryz.underlying92) rfl) ?_
   refine gk_y rfl rfl (y_lss rfl rfl) ?_
   refine gk_nil (gk_sub (T':=[(0,_),(1,_),(4,_),(5,_),(6,_),(19,_)]) ⟨rfl,rfl,rfl,rfl,rfl,rfl,trivial⟩ ?_)
   refine gk_cond rfl (fun hc19=>?_) (fun hc19=>?_)
   ·have hc19:=of_decide_eq_true hc19
    refine gk_skip ?_
    refine gk_seq ?_
    refine gk_block ?_
    refine gk_seq ?_
    refine gk_region ?_
    refine gk_y rfl rfl (y_move rfl) ?_
    refine gk_y rfl rfl (y_move rfl) ?_
    refine gk_y rfl rfl (y_indexN se92 rfl rfl (fun _ hw=>(has_row encOpn_ok (hw.has (p:=0) rfl))) hD.len (by omega) (by omega)) ?_
    refine gk_y rfl rfl (y_loadE (vs:=[_,_,_,_,_]) tf98 rfl (fun _ hw=>(has_row encOpn_ok (hw.has (p:=0) rfl))) (by omega) (by omega) rfl) ?_
    refine gk_yx rfl rfl (yx_alloc tf98 (zs:=[_,_,_,_,_]) rfl) fun b7=>?_
    refine gk_storeV 0 tf98 rfl rfl (vs:=[_,_,_,_,_]) rfl rfl rfl rfl rfl ?_
    refine gk_nil (gk_sub (T':=[(0,_),(1,_),(4,_),(5,_),(6,_),(7,_)]) ⟨rfl,rfl,rfl,rfl,rfl,rfl,trivial⟩ ?_)
    refine gk_seq ?_
    refine gk_region ?_
    refine gk_y rfl rfl (y_move rfl) ?_
    refine gk_y rfl rfl (y_loadBA 0 tf98 rfl rfl (vs:=[_,_,_,_,_]) rfl rfl) ?_
    refine gk_y rfl rfl (y_callV (fs:=[]) (cap:=gcap) hen rfl rfl (fun w hw=>hg _ w (Rd.has hR hw))) ?_
    refine gk_y rfl rfl (y_not rfl) ?_
    refine gk_nil (gk_sub (T':=[(0,_),(1,_),(4,_),(5,_),(6,_),(7,_),(29,_)]) ⟨rfl,rfl,rfl,rfl,rfl,rfl,rfl,trivial⟩ ?_)
    refine gk_cond rfl (fun hc29=>?_) (fun hc29=>?_)
    ·have hb29:f (m.getD j.toNat default)=false:=by rw [Bool.not_eq_true'] at hc29; exact hc29
     refine gk_seq ?_
     refine gk_region ?_
     refine gk_y rfl rfl (y_move rfl) ?_
     refine gk_y rfl rfl (y_move rfl) ?_
     refine gk_y rfl rfl (y_loadBA 0 tf98 rfl rfl (vs:=[_,_,_,_,_]) rfl rfl) ?_
     refine gk_y rfl rfl (y_indexN se92 rfl rfl (fun _ hw=>(has_row encOpn_ok (hw.has (p:=1) rfl))) hD.len (by omega) (by omega)) ?_
     refine gk_storeE (x':=(m.getD (j).toNat default)) 1 encOpn_ok tf98 rfl rfl (vs:=[_,_,_,_,_]) rfl rfl rfl (by omega) (by omega) ?_
     refine gk_nil (gk_sub (T':=[(0,_),(1,_),(4,_),(5,_),(6,_)]) ⟨rfl,rfl,rfl,rfl,rfl,trivial⟩ ?_)
     refine gk_region ?_
     refine gk_y rfl rfl (y_move rfl) ?_
     refine gk_y rfl rfl (y_addI rfl rfl (by omega) (by omega)) ?_
     refine gk_y rfl rfl (y_assign rfl) ?_
     refine gk_nil (gk_sub (T':=[(0,_),(1,_),(4,_),(5,_),(6,_)]) ⟨rfl,rfl,rfl,rfl,rfl,trivial⟩ ?_)
     refine gk_region ?_
     refine gk_y rfl rfl (y_move rfl) ?_
     refine gk_y rfl rfl (y_addI rfl rfl (by omega) (by omega)) ?_
     refine gk_y rfl rfl (y_assign rfl) ?_
     refine gk_nil (gk_sub (T':=[(0,_),(1,_),(4,_),(5,_),(6,_)]) ⟨rfl,rfl,rfl,rfl,rfl,trivial⟩ ?_)
     refine gk_dropAt 0 rfl ?_
     exact gk_next (_,j+1,_) ⟨rfl,rfl,rfl,rfl,rfl,trivial⟩ rfl (by first | exact hD.keep hc19 hb29 | exact hD.skip hc19 hb29) (by simp only []; omega)
    ·have hb29:f (m.getD j.toNat default)=true:=by rw [Bool.not_eq_false'] at hc29; exact hc29
     refine gk_skip ?_
     refine gk_region ?_
     refine gk_y rfl rfl (y_move rfl) ?_
     refine gk_y rfl rfl (y_addI rfl rfl (by omega) (by omega)) ?_
     refine gk_y rfl rfl (y_assign rfl) ?_
     refine gk_nil (gk_sub (T':=[(0,_),(1,_),(4,_),(5,_),(6,_)]) ⟨rfl,rfl,rfl,rfl,rfl,trivial⟩ ?_)
     refine gk_dropAt 0 rfl ?_
     exact gk_next (_,j+1,_) ⟨rfl,rfl,rfl,rfl,rfl,trivial⟩ rfl (by first | exact hD.keep hc19 hb29 | exact hD.skip hc19 hb29) (by simp only []; omega)
   ·have hc19:=of_decide_eq_false hc19
    obtain⟨d1,d2,d3⟩:=hD.done hc19
    refine gk_exit rfl ?_
    refine gk_seq ?_
    refine gk_region ?_
    refine gk_y rfl rfl (y_move rfl) ?_
    refine gk_y rfl rfl (y_move rfl) ?_
    refine gk_y rfl rfl (y_sliceLoL se92 rfl rfl (by omega) (by omega)) ?_
    refine gk_clear m (default:Opn) 0 encOpn_ok (Tryz.underlying92) tf98 rfl rfl (by rw [List.length_drop,List.length_drop,hD.len]) rfl (by have:=hD.i0; have:=hD.ij; have:=hD.jl; have:=hD.len; omega) rfl ?_
    refine gk_nil (gk_sub (T':=[(0,_),(4,_),(5,_)]) ⟨rfl,rfl,rfl,trivial⟩ ?_)
    refine gk_conv (R':=Row a 5 cap 98 encOpn (offZ f l)) 0 rfl (fun B w hA=>by unfold offZ; rw [←d2,←d1,←d3]; exact hA) ?_
    refine gk_seq ?_
    refine gk_region ?_
    refine gk_y rfl rfl (y_move rfl) ?_
    refine gk_y rfl rfl (y_move rfl) ?_
    refine gk_y rfl rfl (y_sliceHiL se92 rfl rfl (by omega) (by omega) hcap) ?_
    refine gk_y rfl rfl (y_assign rfl) ?_
    refine gk_nil (gk_sub (T':=[(4,_)]) ⟨rfl,trivial⟩ ?_)
    refine gk_sub (T':=[(4,.slice a (offL f l).length cap)]) ⟨(by rw [show(offL f l).length=(l.take i.toNat).length from by have:=off_len (p:=f) l; rw [List.length_take]; omega,hsub cap]; rfl),trivial⟩ ?_
    refine gk_ret ?_
    refine gk_turns () 0 (rv_one rfl (r1_tmp rfl)) rfl rfl trivial
end Go.Proofs.YtdcfcfhmkfkgmaaGreatDoor
namespace Go.Proofs.YtdcfcfhmkfkgmaaGreatDoor
open Go.K Go.Stn Go.Pln Go.RowKit
theorem tf147:TF Tryz.prog 147 false 1 (.nilFunc):=⟨by kernel_rfl,by kernel_rfl⟩
theorem fo49_0:FO Tryz.prog 49 0 0:=⟨by kernel_rfl⟩
theorem en68:En Tryz.prog 68:=en_of Tryz.func68 (by kernel_rfl) (by kernel_rfl)
theorem en117:En Tryz.prog 117:=en_of Tryz.func117 (by kernel_rfl) (by kernel_rfl)
theorem en118:En Tryz.prog 118:=en_of Tryz.func118 (by kernel_rfl) (by kernel_rfl)
theorem en119:En Tryz.prog 119:=en_of Tryz.func119 (by kernel_rfl) (by kernel_rfl)
set_option maxRecDepth 100000 in
set_option maxHeartbeats 1000000 in
theorem without1_c (o:Opn) (b:Nat) (f:Opn→Bool) (gg:FuncId) (gcap:List Value) (hen:En Tryz.prog gg) (R:Res) (w:World) (hb:Has w (Box b [.func (.func gg) #[] gcap.toArray] 147)) (hR:Has w R) (hg:∀ (o:Opn) w',Has w' R→Calls Tryz.prog gg ([Value.agg (encOpn o).toArray]++gcap).toArray w' (Pure (.bool (f o)) w')) :
  Calls Tryz.prog 118 #[.agg #[.int .u8 o.kind,.int .i64 o.at_,.int .i64 o.width,.int .i64 o.frm,.int .i64 o.high],.pointer (some ⟨b,0,none⟩)] w (Pure (.bool (!f o)) w):=by
 refine calls_of_gk (vs:=[_,_]) Tryz.func118 rfl rfl (Nat.le_of_ble_eq_true rfl) ?_
 refine gk_seq ?_
 refine gk_region ?_
 refine gk_yx rfl rfl (yx_box (vs:=[_,_,_,_,_]) rfl rfl) fun b2=>?_
 refine gk_y rfl rfl (y_assign rfl) ?_
 refine gk_nil (gk_sub (T':=[(1,_),(2,_),(3,_)]) ⟨rfl,rfl,rfl,trivial⟩ ?_)
 refine gk_seq ?_
 refine gk_region ?_
 refine gk_y rfl rfl (y_load1 tf147 rfl (fun _ hw=>has_box_cell (Rd.has (Has.rd hb) hw) rfl)) ?_
 refine gk_y rfl rfl (y_loadBA 0 tf98 rfl rfl (vs:=[_,_,_,_,_]) rfl rfl) ?_
 refine gk_y rfl rfl (y_callV (fs:=[]) (cap:=gcap) hen rfl rfl (fun w hw=>hg _ w (Rd.has (Has.rd hR) hw))) ?_
 refine gk_y rfl rfl (y_not rfl) ?_
 refine gk_y rfl rfl (y_assign rfl) ?_
 refine gk_nil (gk_sub (T':=[(3,_)]) ⟨rfl,trivial⟩ ?_)
 refine gk_ret ?_
 refine gk_pure (rv_one rfl (r1_tmp rfl)) ?_
 rfl
set_option maxRecDepth 100000 in
set_option maxHeartbeats 1000000 in
theorem bays1_c (o:Opn) (c:Crs) (b:Nat) (w:World) (hb:Has w (Box b [.int .i64 c.frm,.int .i64 c.to] 49)) :
  Calls Tryz.prog 96 #[.agg #[.int .u8 o.kind,.int .i64 o.at_,.int .i64 o.width,.int .i64 o.frm,.int .i64 o.high],.pointer (some ⟨b,0,none⟩)] w (Pure (.bool (inCrsW c o)) w):=by
 refine calls_of_gk (vs:=[_,_]) Tryz.func96 rfl rfl (Nat.le_of_ble_eq_true rfl) ?_
 refine gk_seq ?_
 refine gk_region ?_
 refine gk_yx rfl rfl (yx_box (vs:=[_,_,_,_,_]) rfl rfl) fun b2=>?_
 refine gk_y rfl rfl (y_assign rfl) ?_
 refine gk_nil (gk_sub (T':=[(1,_),(2,_),(3,_)]) ⟨rfl,rfl,rfl,trivial⟩ ?_)
 refine gk_seq ?_
 refine gk_any 16 (fun _=>mixed) (by kernel_rfl) ?_
 refine ph_y (y_fieldAddr fo98_3 rfl) ?_
 refine ph_y (y_loadB1 0 tf3 rfl rfl rfl) ?_
 refine ph_y (y_fieldAddr fo49_1 rfl) ?_
 refine ph_y (y_load1 tf3 rfl (fun _ hw=>has_box_cell (Rd.has (Has.rd hb) hw) rfl)) ?_
 refine ph_y (y_lss rfl rfl) ?_
 refine ph_y (y_move rfl) ?_
 refine ph_gT rfl rfl (fun hgd=>by(try rw [hgd]); exact(y_fieldAddr fo98_3 rfl)) ?_
 refine ph_gT rfl rfl (fun hgd=>by(try rw [hgd]); exact(y_loadB1 0 tf3 rfl rfl rfl)) ?_
 refine ph_gT rfl rfl (fun hgd=>by(try rw [hgd]); exact(y_fieldAddr fo98_4 rfl)) ?_
 refine ph_gT rfl rfl (fun hgd=>by(try rw [hgd]); exact(y_loadB1 0 tf3 rfl rfl rfl)) ?_
 refine ph_gT rfl rfl (fun hgd=>by(try rw [hgd]); exact(y_add rfl rfl)) ?_
 refine ph_gT rfl rfl (fun hgd=>by(try rw [hgd]); exact(y_fieldAddr fo49_0 rfl)) ?_
 refine ph_gT rfl rfl (fun hgd=>by(try rw [hgd]); exact(y_load1 tf3 rfl (fun _ hw=>has_box_cell (Rd.has (Has.rd hb) hw) rfl))) ?_
 refine ph_gT rfl rfl (fun hgd=>by(try rw [hgd]); exact(y_gtr rfl rfl)) ?_
 refine ph_y (y_pickAnd rfl rfl rfl) ?_
 refine ph_y (y_assign rfl) ?_
 refine gk_nil (gk_sub (T':=[(3,_)]) ⟨rfl,trivial⟩ ?_)
 refine gk_ret ?_
 refine gk_pure (rv_one rfl (r1_tmp rfl)) ?_
 rfl
set_option maxRecDepth 100000 in
set_option maxHeartbeats 1000000 in
theorem copes1_c (o:Opn) (a:Option Addr) (cap:Nat) (s:Sht) (b:Nat) (w:World) (hb:Has w (Box b [.string s.name,.int .i64 s.base,.int .i64 s.batter,.int .i64 s.height,.int .i64 s.skin,.slice a s.heights.length cap,.int .i64 s.least,.int .i64 s.lap,.int .i64 s.run,.int .i64 s.every,.int .i64 s.at_,.int .i64 s.footing,.int .i64 s.spread,.int .u8 s.cope,.int .i64 s.tall,.int .i64 s.short,.int .i64 s.thick,.int .i64 s.low,.int .i64 s.high,.int .i64 s.rood] 41)) :
  Calls Tryz.prog 101 #[.agg #[.int .u8 o.kind,.int .i64 o.at_,.int .i64 o.width,.int .i64 o.frm,.int .i64 o.high],.pointer (some ⟨b,0,none⟩)] w (Pure (.bool (inTopW s.height o)) w):=by
 refine calls_of_gk (vs:=[_,_]) Tryz.func101 rfl rfl (Nat.le_of_ble_eq_true rfl) ?_
 refine gk_seq ?_
 refine gk_region ?_
 refine gk_yx rfl rfl (yx_box (vs:=[_,_,_,_,_]) rfl rfl) fun b2=>?_
 refine gk_y rfl rfl (y_assign rfl) ?_
 refine gk_nil (gk_sub (T':=[(1,_),(2,_),(3,_)]) ⟨rfl,rfl,rfl,trivial⟩ ?_)
 refine gk_seq ?_
 refine gk_region ?_
 refine gk_y rfl rfl (y_fieldAddr fo98_3 rfl) ?_
 refine gk_y rfl rfl (y_loadB1 0 tf3 rfl rfl rfl) ?_
 refine gk_y rfl rfl (y_fieldAddr fo98_4 rfl) ?_
 refine gk_y rfl rfl (y_loadB1 0 tf3 rfl rfl rfl) ?_
 refine gk_y rfl rfl (y_add rfl rfl) ?_
 refine gk_y rfl rfl (y_fieldAddr fo41_3 rfl) ?_
 refine gk_y rfl rfl (y_load1 tf3 rfl (fun _ hw=>has_box_cell (Rd.has (Has.rd hb) hw) rfl)) ?_
 refine gk_y rfl rfl (y_eql rfl rfl) ?_
 refine gk_y rfl rfl (y_assign rfl) ?_
 refine gk_nil (gk_sub (T':=[(3,_)]) ⟨rfl,trivial⟩ ?_)
 refine gk_ret ?_
 refine gk_pure (rv_one rfl (r1_tmp rfl)) ?_
 rfl
theorem rd_two {U:Nat→Prop} {w:World} {R S:Res} (h1:Rd U w R) (h2:Rd U w S):Rd U w (Two R S):=
 let ⟨C,hC,a⟩:=h1; let ⟨D,hD,b⟩:=h2; ⟨fun k=>C k∨D k,fun k h=>h.elim (hC k) (hD k),C,D,fun _ h=>.inl h,fun _ h=>.inr h,a,b⟩
theorem off_has {w:World} {a:Option Addr} {l m:List Opn} (h:m=l) (hm:Has w (Elems a 5 encOpn m)):Has w (Elems a 5 encOpn l):=h ▸ hm
set_option maxRecDepth 100000 in
set_option maxHeartbeats 4000000 in
theorem without_c (b:Option Addr) (bcap:Nat) (v:Wll) (top:Int) (f:Opn→Bool) (gg:FuncId) (gcap:List Value) (hen:En Tryz.prog gg) (R:Res) (w:World) (hv:Has w (Elems b 5 encOpn v.opens)) (hF:WallF v top) (hR:Has w R) (hg:∀ (o:Opn) w',Has w' R→Calls Tryz.prog gg ([Value.agg (encOpn o).toArray]++gcap).toArray w' (Pure (.bool (f o)) w')) :
  Calls Tryz.prog 95 #[.agg #[.string v.name,.string v.sheet,.int .i64 v.length,.slice b v.opens.length bcap],.func (.func gg) #[] gcap.toArray] w (Gives (fun z:Option Addr×Nat=>.slice z.1 (baysP f v).length z.2) (fun z=>Row z.1 2 z.2 69 encCrs (baysP f v)) w):=by
 have hnum:=hF.num
 have hlen:=hF.len
 have hfl:=List.length_filter_le f v.opens
 have hof:=off_not f v.opens
 refine calls_of_gk (vs:=[_,_]) Tryz.func95 rfl rfl (Nat.le_of_ble_eq_true rfl) ?_
 refine gk_seq ?_
 refine gk_region ?_
 refine gk_yx rfl rfl (yx_box (vs:=[_,_,_,_]) rfl rfl) fun b2=>?_
 refine gk_yx rfl rfl (yx_box (vs:=[_]) rfl rfl) fun b3=>?_
 refine gk_y rfl rfl (y_assign rfl) ?_
 refine gk_nil (gk_sub (T':=[(2,_),(3,_),(4,_)]) ⟨rfl,rfl,rfl,trivial⟩ ?_)
 refine gk_seq ?_
 refine gk_region ?_
 refine gk_y rfl rfl (y_fieldAddr fo94_3 rfl) ?_
 refine gk_y rfl rfl (y_loadB1 1 tf92 rfl rfl rfl) ?_
 refine gk_yx rfl rfl (yx_call en68 rfl (fun w hw=>cloneo_c _ _ v.opens w (Rd.has (Has.rd hv) hw) (by unfold Small; omega))) fun p8=>?_
 refine gk_y rfl rfl (y_makeFunc («as»:=[]) (bs:=[_]) rfl rfl) ?_
 refine gk_callU 0 en117 rfl rfl rfl (fun w B hF=>deletefunc_c _ _ v.opens (fun o=>!f o) 118 [.pointer (some ⟨b3,0,none⟩)] en118 (Two (Box b3 [.func (.func gg) #[] gcap.toArray] 147) R) w B (fun k hk=>(hF.own k hk).2) hF.A (by unfold Small; omega) (rd_two (hF.other 0 rfl) (hF.rd (Has.rd hR))) (fun o w' hm=>without1_c o b3 f gg gcap hen R w' (has_fst hm) (has_snd hm) hg)) fun u10 hq10=>?_
 refine gk_y rfl rfl (y_assign rfl) ?_
 refine gk_nil (gk_sub (T':=[(2,_),(4,_),(5,_)]) ⟨rfl,rfl,rfl,trivial⟩ ?_)
 refine gk_sub (T':=[(2,_),(4,_),(5,.slice p8.1 (v.opens.filter f).length p8.2)]) ⟨rfl,rfl,(by rw [←hof]; rfl),trivial⟩ ?_
 refine gk_seq ?_
 refine gk_region ?_
 refine gk_y rfl rfl (y_fieldAddr fo94_2 rfl) ?_
 refine gk_y rfl rfl (y_loadB1 2 tf3 rfl rfl rfl) ?_
 refine gk_y rfl rfl (y_move rfl) ?_
 refine gk_yx rfl rfl (yx_call en119 rfl (fun w hw=>parts_c _ _ _ (v.opens.filter f) w (off_has hof (elems_front (l:=offL (fun o=>!f o) v.opens) (has_row encOpn_ok (hw.has (p:=0) rfl)))) (by unfold Small; omega) (by omega) (by omega) (hF.inW f))) fun p14=>?_
 refine gk_y rfl rfl (y_assign rfl) ?_
 refine gk_nil (gk_sub (T':=[(4,_)]) ⟨rfl,trivial⟩ ?_)
 refine gk_ret ?_
 refine gk_gives p14 0 (rv_one rfl (r1_tmp rfl)) ?_ rfl
 rfl
end Go.Proofs.YtdcfcfhmkfkgmaaGreatDoor
namespace Go.Proofs.YtdcfcfhmkfkgmaaGreatDoor
open Go.K Go.Stn Go.Pln Go.RowKit
theorem bd31_0l (x0a:Option Addr) (x0n x0c:Nat) (w:World):(Instr.build 31 #[(0,.slice x0a x0n x0c)]).run Tryz.prog w=.ok (.agg #[.slice x0a x0n x0c,.slice none 0 0]) w:=by kernel_rfl
set_option maxRecDepth 100000 in
set_option maxHeartbeats 4000000 in
theorem check_c (a:Option Addr) (cap:Nat) (S:List ShC) (b:Option Addr) (bcap:Nat) (V:List WlC) (w:World) (hl:Has w (Elems a 20 encSht S)) (hs:Small S.length) (hcS:S.length≤cap) (hlw:Has w (Elems b 4 encWll V)) (hsw:Small V.length) (hsh:∀ z∈S,Has w (Ints z.a z.s.heights)) (hss:∀ z∈S,Small z.s.heights.length) (hwo:∀ z∈V,Has w (Elems z.a 5 encOpn z.s.opens)) (hsv:∀ z∈V,Small z.s.opens.length) (hcp:∀ z∈V,z.s.opens.length≤z.cap) (hkn:∀ z∈V,∀ o∈z.s.opens,Knd o) :
  Calls Tryz.prog 16 #[.agg #[.slice a S.length cap,.slice b V.length bcap]] w (Pure (.int .i64 (checkPl S V)) w):=by
 refine calls_of_gk (vs:=[_]) Tryz.func16 rfl rfl (Nat.le_of_ble_eq_true rfl) ?_
 refine gk_seq ?_
 refine gk_region ?_
 refine gk_yx rfl rfl (yx_box (vs:=[_,_]) rfl rfl) fun b1=>?_
 refine gk_y rfl rfl (y_assign rfl) ?_
 refine gk_nil (gk_sub (T':=[(1,_),(2,_)]) ⟨rfl,rfl,trivial⟩ ?_)
 refine gk_seq ?_
 refine gk_seq ?_
 refine gk_any 10 (fun _=>mixed) (by kernel_rfl) ?_
 refine ph_y (y_fieldAddr fo31_0 rfl) ?_
 refine ph_y (y_loadB1 0 tf28 rfl rfl rfl) ?_
 refine ph_y (y_lenS (Tryz.underlying28) rfl) ?_
 refine ph_y (y_gtr rfl rfl) ?_
 refine ph_y (y_move rfl) ?_
 refine ph_gF rfl rfl (fun hgd=>by(try rw [hgd]); exact(y_fieldAddr fo31_1 rfl)) ?_
 refine ph_gF rfl rfl (fun hgd=>by(try rw [hgd]); exact(y_loadB1 0 tf29 rfl rfl rfl)) ?_
 refine ph_gF rfl rfl (fun hgd=>by(try rw [hgd]); exact(y_lenS (Tryz.underlying29) rfl)) ?_
 refine ph_gF rfl rfl (fun hgd=>by(try rw [hgd]); exact(y_gtr rfl rfl)) ?_
 refine ph_y (y_pickOr rfl rfl rfl) ?_
 refine gk_nil (gk_sub (T':=[(1,_),(2,_),(20,_)]) ⟨rfl,rfl,rfl,trivial⟩ ?_)
 refine gk_cond rfl (fun hc20=>?_) (fun hc20=>?_)
 ·have hP:=plan_many (S:=S) (V:=V) hc20
  refine gk_seq ?_
  refine gk_region ?_
  refine gk_y rfl rfl (y_assign rfl) ?_
  refine gk_nil (gk_sub (T':=[(1,_),(2,_)]) ⟨rfl,rfl,trivial⟩ ?_)
  refine gk_ret ?_
  refine gk_pure (rv_one rfl (r1_tmp rfl)) ?_
  rw [checkPl,hP]; rfl
 ·
  refine gk_skip ?_
  refine gk_seq ?_
  refine gk_seq ?_
  refine gk_region ?_
  refine gk_y rfl rfl (y_fieldAddr fo31_0 rfl) ?_
  refine gk_y rfl rfl (y_loadB1 0 tf28 rfl rfl rfl) ?_
  refine gk_y rfl rfl (y_lenS (Tryz.underlying28) rfl) ?_
  refine gk_y rfl rfl (y_move rfl) ?_
  refine gk_nil (gk_sub (T':=[(1,_),(2,_),(22,_),(23,_),(24,_)]) ⟨rfl,rfl,rfl,rfl,rfl,trivial⟩ ?_)
  refine gk_block ?_
  refine gk_loop (X:=Int) (fun(i:Int)=>[(1,.pointer (some ⟨b1,0,none⟩)),(2,.int .i64 0),(22,.slice a S.length cap),(23,.int .i64 (S.length:Int)),(24,.int .i64 i)]) (fun(i:Int)=>[Box b1 [.slice a S.length cap,.slice b V.length bcap] 31]) (fun(i:Int)=>(0≤i∧i≤S.length∧∀ j:Nat,(j:Int) < i→shAt S j=true)) (fun(i:Int)=>(S.length - i).toNat) 0 ⟨rfl,rfl,rfl,rfl,rfl,trivial⟩ rfl ?_ ?_
  ·exact⟨by omega,by omega,fun j hj=>by omega⟩
  ·rintro i hI
   obtain⟨g0,g1,g2⟩:=hI
   refine gk_seq ?_
   refine gk_region ?_
   refine gk_y rfl rfl (y_lss rfl rfl) ?_
   refine gk_nil (gk_sub (T':=[(1,_),(2,_),(22,_),(23,_),(24,_),(25,_)]) ⟨rfl,rfl,rfl,rfl,rfl,rfl,trivial⟩ ?_)
   refine gk_seq ?_
   refine gk_cond rfl (fun hc25=>?_) (fun hc25=>?_)
   ·have hc25:=of_decide_eq_true hc25
    refine gk_skip ?_
    refine gk_seq ?_
    refine gk_block ?_
    refine gk_seq ?_
    refine gk_region ?_
    refine gk_y rfl rfl (y_move rfl) ?_
    refine gk_y rfl rfl (y_indexE se28 rfl rfl (fun _ hw=>(Rd.has (Has.rd hl) hw)) (by omega) (by omega)) ?_
    refine gk_y rfl rfl (y_loadE (vs:=[_,_,_,_,_,_,_,_,_,_,_,_,_,_,_,_,_,_,_,_]) tf41 rfl (fun _ hw=>(Rd.has (Has.rd hl) hw)) (by omega) (by omega) rfl) ?_
    refine gk_yx rfl rfl (yx_alloc tf41 (zs:=[_,_,_,_,_,_,_,_,_,_,_,_,_,_,_,_,_,_,_,_]) rfl) fun b4=>?_
    refine gk_y rfl rfl (y_assign rfl) ?_
    refine gk_storeAll 0 tf41 rfl rfl (vs:=[_,_,_,_,_,_,_,_,_,_,_,_,_,_,_,_,_,_,_,_]) rfl rfl rfl rfl rfl ?_
    refine gk_nil (gk_sub (T':=[(1,_),(2,_),(3,_),(4,_),(22,_),(23,_),(24,_)]) ⟨rfl,rfl,rfl,rfl,rfl,rfl,rfl,trivial⟩ ?_)
    refine gk_seq ?_
    refine gk_any3 (ch [(11,Nat)]) 14 [0,1,0,7,15,0,32,127,255,511,511,0,3071,8191] (fun _=>mixed) (by kernel_rfl) (ch_ne _ ⟨inferInstance,trivial⟩) ?_
    refine ph3_y (fun ρ=>y_fieldAddr fo31_0 rfl) (fun ρ ρ' h=>by rfl) ?_
    refine ph3_y (fun ρ=>y_loadB1 1 tf28 rfl rfl rfl) (fun ρ ρ' h=>by rfl) ?_
    refine ph3_y (fun ρ=>y_move rfl) (fun ρ ρ' h=>by rfl) ?_
    refine ph3_y (fun ρ=>y_sliceHiL se28 rfl rfl (by omega) (by omega) hcS) (fun ρ ρ' h=>by rfl) ?_
    refine ph3_y (fun ρ=>y_buildL rfl (bd31_0l _ _ _)) (fun ρ ρ' h=>by rfl) ?_
    refine ph3_y (fun ρ=>y_fieldAddr fo41_0 rfl) (fun ρ ρ' h=>by rfl) ?_
    refine ph3_y (fun ρ=>y_loadB1 0 tf9 rfl rfl rfl) (fun ρ ρ' h=>by rfl) ?_
    refine ph3_y (fun ρ=>y_call en46 rfl (fun w hw=>plsheet_c _ _ (S.take i.toNat) _ _ _ _ w (elems_take (Rd.has (Has.rd hl) hw) (by omega) (by omega)) (by rw [List.length_take]; have:=hs; unfold Small at *; omega))) (fun ρ ρ' h=>by rfl) ?_
    refine ph3_y (fun ρ=>y_move rfl) (fun ρ ρ' h=>by rfl) ?_
    refine ph3_y (fun ρ=>y_extract rfl rfl) (fun ρ ρ' h=>by rfl) ?_
    refine ph3_y (fun ρ=>y_extract rfl rfl) (fun ρ ρ' h=>by rfl) ?_
    refine ph3_yx (fun ρ=>yx_alloc tf41 (zs:=[_,_,_,_,_,_,_,_,_,_,_,_,_,_,_,_,_,_,_,_]) rfl) (fun ρ ρ' h=>⟨by rfl,by rfl⟩) ?_
    refine ph3_st (R:=fun ρ=>Box (ρ 11) [.string ⟨#[]⟩,.int .i64 0,.int .i64 0,.int .i64 0,.int .i64 0,.slice none 0 0,.int .i64 0,.int .i64 0,.int .i64 0,.int .i64 0,.int .i64 0,.int .i64 0,.int .i64 0,.int .u8 0,.int .i64 0,.int .i64 0,.int .i64 0,.int .i64 0,.int .i64 0,.int .i64 0] 41) (A:=fun ρ=>Box (ρ 11) [.string (getSh (S.take i.toNat) ((S.getD (i).toNat default).s.name)).s.name,.int .i64 ((getSh (S.take i.toNat) ((S.getD (i).toNat default).s.name)).s.base),.int .i64 ((getSh (S.take i.toNat) ((S.getD (i).toNat default).s.name)).s.batter),.int .i64 ((getSh (S.take i.toNat) ((S.getD (i).toNat default).s.name)).s.height),.int .i64 ((getSh (S.take i.toNat) ((S.getD (i).toNat default).s.name)).s.skin),.slice (getSh (S.take i.toNat) ((S.getD (i).toNat default).s.name)).a (getSh (S.take i.toNat) ((S.getD (i).toNat default).s.name)).s.heights.length (getSh (S.take i.toNat) ((S.getD (i).toNat default).s.name)).cap,.int .i64 ((getSh (S.take i.toNat) ((S.getD (i).toNat default).s.name)).s.least),.int .i64 ((getSh (S.take i.toNat) ((S.getD (i).toNat default).s.name)).s.lap),.int .i64 ((getSh (S.take i.toNat) ((S.getD (i).toNat default).s.name)).s.run),.int .i64 ((getSh (S.take i.toNat) ((S.getD (i).toNat default).s.name)).s.every),.int .i64 ((getSh (S.take i.toNat) ((S.getD (i).toNat default).s.name)).s.at_),.int .i64 ((getSh (S.take i.toNat) ((S.getD (i).toNat default).s.name)).s.footing),.int .i64 ((getSh (S.take i.toNat) ((S.getD (i).toNat default).s.name)).s.spread),.int .u8 (getSh (S.take i.toNat) ((S.getD (i).toNat default).s.name)).s.cope,.int .i64 ((getSh (S.take i.toNat) ((S.getD (i).toNat default).s.name)).s.tall),.int .i64 ((getSh (S.take i.toNat) ((S.getD (i).toNat default).s.name)).s.short),.int .i64 ((getSh (S.take i.toNat) ((S.getD (i).toNat default).s.name)).s.thick),.int .i64 ((getSh (S.take i.toNat) ((S.getD (i).toNat default).s.name)).s.low),.int .i64 ((getSh (S.take i.toNat) ((S.getD (i).toNat default).s.name)).s.high),.int .i64 ((getSh (S.take i.toNat) ((S.getD (i).toNat default).s.name)).s.rood)] 41) 11 rfl rfl (fun _=>rfl) (fun ρ=>so_box tf41 rfl rfl (vs:=[_,_,_,_,_,_,_,_,_,_,_,_,_,_,_,_,_,_,_,_]) rfl rfl rfl rfl rfl) (fun ρ ρ' h=>by(first | rfl | simp only [h 11 rfl])) ?_
    refine ph3_y (fun ρ=>y_assign rfl) (fun ρ ρ' h=>by rfl) ?_
    refine fun ρ=>gk_nil (gk_name (X:=Nat) (ρ 11) (fun b5=>[(1,.pointer (some ⟨b1,0,none⟩)),(2,.int .i64 0),(4,.pointer (some ⟨b4,0,none⟩)),(6,.bool (decide (0≤sheetI (S.take i.toNat) ((S.getD (i).toNat default).s.name)))),(22,.slice a S.length cap),(23,.int .i64 (S.length:Int)),(24,.int .i64 i)]) (fun b5=>[Box b5 [.string (getSh (S.take i.toNat) ((S.getD (i).toNat default).s.name)).s.name,.int .i64 ((getSh (S.take i.toNat) ((S.getD (i).toNat default).s.name)).s.base),.int .i64 ((getSh (S.take i.toNat) ((S.getD (i).toNat default).s.name)).s.batter),.int .i64 ((getSh (S.take i.toNat) ((S.getD (i).toNat default).s.name)).s.height),.int .i64 ((getSh (S.take i.toNat) ((S.getD (i).toNat default).s.name)).s.skin),.slice (getSh (S.take i.toNat) ((S.getD (i).toNat default).s.name)).a (getSh (S.take i.toNat) ((S.getD (i).toNat default).s.name)).s.heights.length (getSh (S.take i.toNat) ((S.getD (i).toNat default).s.name)).cap,.int .i64 ((getSh (S.take i.toNat) ((S.getD (i).toNat default).s.name)).s.least),.int .i64 ((getSh (S.take i.toNat) ((S.getD (i).toNat default).s.name)).s.lap),.int .i64 ((getSh (S.take i.toNat) ((S.getD (i).toNat default).s.name)).s.run),.int .i64 ((getSh (S.take i.toNat) ((S.getD (i).toNat default).s.name)).s.every),.int .i64 ((getSh (S.take i.toNat) ((S.getD (i).toNat default).s.name)).s.at_),.int .i64 ((getSh (S.take i.toNat) ((S.getD (i).toNat default).s.name)).s.footing),.int .i64 ((getSh (S.take i.toNat) ((S.getD (i).toNat default).s.name)).s.spread),.int .u8 (getSh (S.take i.toNat) ((S.getD (i).toNat default).s.name)).s.cope,.int .i64 ((getSh (S.take i.toNat) ((S.getD (i).toNat default).s.name)).s.tall),.int .i64 ((getSh (S.take i.toNat) ((S.getD (i).toNat default).s.name)).s.short),.int .i64 ((getSh (S.take i.toNat) ((S.getD (i).toNat default).s.name)).s.thick),.int .i64 ((getSh (S.take i.toNat) ((S.getD (i).toNat default).s.name)).s.low),.int .i64 ((getSh (S.take i.toNat) ((S.getD (i).toNat default).s.name)).s.high),.int .i64 ((getSh (S.take i.toNat) ((S.getD (i).toNat default).s.name)).s.rood)] 41,Box b4 [.string (S.getD (i).toNat default).s.name,.int .i64 ((S.getD (i).toNat default).s.base),.int .i64 ((S.getD (i).toNat default).s.batter),.int .i64 ((S.getD (i).toNat default).s.height),.int .i64 ((S.getD (i).toNat default).s.skin),.slice (S.getD (i).toNat default).a (S.getD (i).toNat default).s.heights.length (S.getD (i).toNat default).cap,.int .i64 ((S.getD (i).toNat default).s.least),.int .i64 ((S.getD (i).toNat default).s.lap),.int .i64 ((S.getD (i).toNat default).s.run),.int .i64 ((S.getD (i).toNat default).s.every),.int .i64 ((S.getD (i).toNat default).s.at_),.int .i64 ((S.getD (i).toNat default).s.footing),.int .i64 ((S.getD (i).toNat default).s.spread),.int .u8 (S.getD (i).toNat default).s.cope,.int .i64 ((S.getD (i).toNat default).s.tall),.int .i64 ((S.getD (i).toNat default).s.short),.int .i64 ((S.getD (i).toNat default).s.thick),.int .i64 ((S.getD (i).toNat default).s.low),.int .i64 ((S.getD (i).toNat default).s.high),.int .i64 ((S.getD (i).toNat default).s.rood)] 41,Box b1 [.slice a S.length cap,.slice b V.length bcap] 31]) ⟨rfl,rfl,rfl,rfl,rfl,rfl,rfl,trivial⟩ rfl ?_)
    rintro b5
    refine gk_seq ?_
    refine gk_any 6 (fun _=>mixed) (by kernel_rfl) ?_
    refine ph_y (y_move rfl) ?_
    refine ph_y (y_move rfl) ?_
    refine ph_gF rfl rfl (fun hgd=>by(try rw [hgd]); exact(y_loadBA 1 tf41 rfl rfl (vs:=[_,_,_,_,_,_,_,_,_,_,_,_,_,_,_,_,_,_,_,_]) rfl rfl)) ?_
    refine ph_gF rfl rfl (fun hgd=>by(try rw [hgd]); exact(y_call (v:=.int .i64 (checkP ((S.getD (i).toNat default).s))) en20 rfl (fun w hw=>checksheet_c ((S.getD (i).toNat default).a) ((S.getD (i).toNat default).cap) ((S.getD (i).toNat default).s) w (Rd.has (Has.rd (hsh _ (getD_memS (by omega)))) hw) (hss _ (getD_memS (by omega)))))) ?_
    refine ph_gF rfl rfl (fun hgd=>by(try rw [hgd]); exact(y_neq rfl rfl)) ?_
    refine ph_y (y_pickOr rfl rfl rfl) ?_
    refine gk_nil (gk_sub (T':=[(1,_),(2,_),(22,_),(23,_),(24,_),(45,_)]) ⟨rfl,rfl,rfl,rfl,rfl,rfl,trivial⟩ ?_)
    refine gk_cond rfl (fun hc45=>?_) (fun hc45=>?_)
    ·have hno:shAt S i.toNat=false:=of_nt ((shAt_of g0 hc25).symm.trans hc45)
     refine gk_seq ?_
     refine gk_region ?_
     refine gk_y rfl rfl (y_assign rfl) ?_
     refine gk_nil (gk_sub (T':=[(1,_),(2,_),(22,_),(23,_),(24,_)]) ⟨rfl,rfl,rfl,rfl,rfl,trivial⟩ ?_)
     refine gk_ret ?_
     refine gk_pure (rv_one rfl (r1_tmp rfl)) ?_
     rw [checkPl,plan_noS g0 hc25 hno]; rfl
    ·have hyes:shAt S i.toNat=true:=of_nf ((shAt_of g0 hc25).symm.trans hc45)
     refine gk_skip ?_
     refine gk_region ?_
     refine gk_y rfl rfl (y_addI rfl rfl (by omega) (by omega)) ?_
     refine gk_y rfl rfl (y_move rfl) ?_
     refine gk_nil (gk_sub (T':=[(1,_),(2,_),(22,_),(23,_),(24,_)]) ⟨rfl,rfl,rfl,rfl,rfl,trivial⟩ ?_)
     refine gk_dropAt 0 rfl ?_
     refine gk_dropAt 0 rfl ?_
     exact gk_next (i+1) ⟨rfl,rfl,rfl,rfl,rfl,trivial⟩ rfl ⟨by omega,by omega,true_succ g0 g2 hyes⟩ (by omega)
   ·have hc25:=of_decide_eq_false hc25
    have hS:=sheets_all (S:=S) (fun j hj=>g2 j (by omega))
    refine gk_exit rfl ?_
    refine gk_seq ?_
    refine gk_seq ?_
    refine gk_region ?_
    refine gk_y rfl rfl (y_fieldAddr fo31_1 rfl) ?_
    refine gk_y rfl rfl (y_loadB1 0 tf29 rfl rfl rfl) ?_
    refine gk_y rfl rfl (y_lenS (Tryz.underlying29) rfl) ?_
    refine gk_y rfl rfl (y_move rfl) ?_
    refine gk_nil (gk_sub (T':=[(1,_),(2,_),(48,_),(49,_),(50,_)]) ⟨rfl,rfl,rfl,rfl,rfl,trivial⟩ ?_)
    refine gk_block ?_
    refine gk_loop (X:=Int) (fun(i:Int)=>[(1,.pointer (some ⟨b1,0,none⟩)),(2,.int .i64 0),(48,.slice b V.length bcap),(49,.int .i64 (V.length:Int)),(50,.int .i64 i)]) (fun(i:Int)=>[Box b1 [.slice a S.length cap,.slice b V.length bcap] 31]) (fun(i:Int)=>(0≤i∧i≤V.length∧∀ j:Nat,(j:Int) < i→wlAt S V j=true)) (fun(i:Int)=>(V.length - i).toNat) 0 ⟨rfl,rfl,rfl,rfl,rfl,trivial⟩ rfl ?_ ?_
    ·exact⟨by omega,by omega,fun j hj=>by omega⟩
    ·rintro i hI
     have gi2:=g2; have hgi:=hc25
     rename_i ii
     obtain⟨k0,k1,k2⟩:=hI
     refine gk_seq ?_
     refine gk_region ?_
     refine gk_y rfl rfl (y_lss rfl rfl) ?_
     refine gk_nil (gk_sub (T':=[(1,_),(2,_),(48,_),(49,_),(50,_),(51,_)]) ⟨rfl,rfl,rfl,rfl,rfl,rfl,trivial⟩ ?_)
     refine gk_seq ?_
     refine gk_cond rfl (fun hc51=>?_) (fun hc51=>?_)
     ·have hc51:=of_decide_eq_true hc51
      refine gk_skip ?_
      refine gk_seq ?_
      refine gk_block ?_
      refine gk_seq ?_
      refine gk_region ?_
      refine gk_y rfl rfl (y_move rfl) ?_
      refine gk_y rfl rfl (y_indexE se29 rfl rfl (fun _ hw=>(Rd.has (Has.rd hlw) hw)) (by omega) (by omega)) ?_
      refine gk_y rfl rfl (y_loadE (vs:=[_,_,_,_]) tf94 rfl (fun _ hw=>(Rd.has (Has.rd hlw) hw)) (by omega) (by omega) rfl) ?_
      refine gk_yx rfl rfl (yx_alloc tf94 (zs:=[_,_,_,_]) rfl) fun b8=>?_
      refine gk_y rfl rfl (y_assign rfl) ?_
      refine gk_storeV 0 tf94 rfl rfl (vs:=[_,_,_,_]) rfl rfl rfl rfl rfl ?_
      refine gk_nil (gk_sub (T':=[(1,_),(2,_),(7,_),(8,_),(48,_),(49,_),(50,_)]) ⟨rfl,rfl,rfl,rfl,rfl,rfl,rfl,trivial⟩ ?_)
      refine gk_seq ?_
      refine gk_region ?_
      refine gk_y rfl rfl (y_loadBA 1 tf31 rfl rfl (vs:=[_,_]) rfl rfl) ?_
      refine gk_y rfl rfl (y_fieldAddr fo94_1 rfl) ?_
      refine gk_y rfl rfl (y_loadB1 0 tf9 rfl rfl rfl) ?_
      refine gk_y rfl rfl (y_call en46 rfl (fun w hw=>plsheet_c _ _ S _ _ _ _ w (Rd.has (Has.rd hl) hw) (by assumption))) ?_
      refine gk_y rfl rfl (y_move rfl) ?_
      refine gk_y rfl rfl (y_extract rfl rfl) ?_
      refine gk_y rfl rfl (y_extract rfl rfl) ?_
      refine gk_yx rfl rfl (yx_alloc tf41 (zs:=[_,_,_,_,_,_,_,_,_,_,_,_,_,_,_,_,_,_,_,_]) rfl) fun b9=>?_
      refine gk_storeAll 0 tf41 rfl rfl (vs:=[_,_,_,_,_,_,_,_,_,_,_,_,_,_,_,_,_,_,_,_]) rfl rfl rfl rfl rfl ?_
      refine gk_y rfl rfl (y_assign rfl) ?_
      refine gk_nil (gk_sub (T':=[(1,_),(2,_),(7,_),(8,_),(9,_),(10,_),(48,_),(49,_),(50,_)]) ⟨rfl,rfl,rfl,rfl,rfl,rfl,rfl,rfl,rfl,trivial⟩ ?_)
      refine gk_seq ?_
      refine gk_any 16 (fun _=>mixed) (by kernel_rfl) ?_
      refine ph_y (y_move rfl) ?_
      refine ph_y (y_not rfl) ?_
      refine ph_y (y_move rfl) ?_
      refine ph_gF rfl rfl (fun hgd=>by(try rw [hgd]); exact(y_loadBA 2 tf31 rfl rfl (vs:=[_,_]) rfl rfl)) ?_
      refine ph_gF rfl rfl (fun hgd=>by(try rw [hgd]); exact(y_fieldAddr fo94_0 rfl)) ?_
      refine ph_gF rfl rfl (fun hgd=>by(try rw [hgd]); exact(y_loadB1 1 tf9 rfl rfl rfl)) ?_
      refine ph_gF rfl rfl (fun hgd=>by(try rw [hgd]); exact(y_call (v:=.int .i64 (wallI V ((V.getD (i).toNat default).s.name))) en47 rfl (fun w hw=>plwall_c _ _ _ _ _ V _ w (Rd.has (Has.rd hlw) hw) (by assumption)))) ?_
      refine ph_gF rfl rfl (fun hgd=>by(try rw [hgd]); exact(y_move rfl)) ?_
      refine ph_gF rfl rfl (fun hgd=>by(try rw [hgd]); exact(y_lss rfl rfl)) ?_
      refine ph_y (y_pickOr rfl rfl rfl) ?_
      refine ph_y (y_move rfl) ?_
      refine ph_gF rfl rfl (fun hgd=>by(try rw [hgd]); exact(y_loadBA 1 tf94 rfl rfl (vs:=[_,_,_,_]) rfl rfl)) ?_
      refine ph_gF rfl rfl (fun hgd=>by(try rw [hgd]); exact(y_loadBA 0 tf41 rfl rfl (vs:=[_,_,_,_,_,_,_,_,_,_,_,_,_,_,_,_,_,_,_,_]) rfl rfl)) ?_
      refine ph_gF rfl rfl (fun hgd=>by(try rw [hgd]); exact(y_call (v:=.bool (wallB ((getSh S ((V.getD (i).toNat default).s.sheet)).s).height ((V.getD (i).toNat default).s))) en48 rfl (fun w hw=>valid_c ((V.getD (i).toNat default).a) ((V.getD (i).toNat default).cap) ((V.getD (i).toNat default).s) ((getSh S ((V.getD (i).toNat default).s.sheet)).a) ((getSh S ((V.getD (i).toNat default).s.sheet)).cap) ((getSh S ((V.getD (i).toNat default).s.sheet)).s) w (Rd.has (Has.rd (hwo _ (getD_memS (by omega)))) hw) (hcp _ (getD_memS (by omega))) (hsv _ (getD_memS (by omega))) (hkn _ (getD_memS (by omega))) (getSh_high hS)))) ?_
      refine ph_gF rfl rfl (fun hgd=>by(try rw [hgd]); exact(y_not rfl)) ?_
      refine ph_y (y_pickOr rfl rfl rfl) ?_
      refine gk_nil (gk_sub (T':=[(1,_),(2,_),(48,_),(49,_),(50,_),(77,_)]) ⟨rfl,rfl,rfl,rfl,rfl,rfl,trivial⟩ ?_)
      refine gk_cond rfl (fun hc77=>?_) (fun hc77=>?_)
      ·have hno:wlAt S V i.toNat=false:=of_nt ((wlAt_of k0 hc51).symm.trans hc77)
       refine gk_seq ?_
       refine gk_region ?_
       refine gk_y rfl rfl (y_assign rfl) ?_
       refine gk_nil (gk_sub (T':=[(1,_),(2,_),(48,_),(49,_),(50,_)]) ⟨rfl,rfl,rfl,rfl,rfl,trivial⟩ ?_)
       refine gk_ret ?_
       refine gk_pure (rv_one rfl (r1_tmp rfl)) ?_
       rw [checkPl,plan_noW k0 hc51 hno]; rfl
      ·have hyes:wlAt S V i.toNat=true:=of_nf ((wlAt_of k0 hc51).symm.trans hc77)
       refine gk_skip ?_
       refine gk_region ?_
       refine gk_y rfl rfl (y_addI rfl rfl (by omega) (by omega)) ?_
       refine gk_y rfl rfl (y_move rfl) ?_
       refine gk_nil (gk_sub (T':=[(1,_),(2,_),(48,_),(49,_),(50,_)]) ⟨rfl,rfl,rfl,rfl,rfl,trivial⟩ ?_)
       refine gk_dropAt 0 rfl ?_
       refine gk_dropAt 0 rfl ?_
       exact gk_next (i+1) ⟨rfl,rfl,rfl,rfl,rfl,trivial⟩ rfl ⟨by omega,by omega,true_succ k0 k2 hyes⟩ (by omega)
     ·have hc51:=of_decide_eq_false hc51
      refine gk_exit rfl ?_
      refine gk_seq ?_
      refine gk_region ?_
      refine gk_y rfl rfl (y_assign rfl) ?_
      refine gk_nil (gk_sub (T':=[(2,_)]) ⟨rfl,trivial⟩ ?_)
      refine gk_ret ?_
      refine gk_pure (rv_one rfl (r1_tmp rfl)) ?_
      rw [checkPl,plan_yes hc25 hc51 g2 k2]; simp only [Bool.or_eq_false_iff,decide_eq_false_iff_not] at hc20; rw [decide_eq_true (by omega),decide_eq_true (by omega)]; rfl
end Go.Proofs.YtdcfcfhmkfkgmaaGreatDoor
namespace Go.Proofs.YtdcfcfhmkfkgmaaGreatDoor
open Go.K Go.Stn Go.Pln Go.RowKit
theorem en16:En Tryz.prog 16:=en_of Tryz.func16 (by kernel_rfl) (by kernel_rfl)
theorem bd94_  (w:World):(Instr.build 94 #[]).run Tryz.prog w=.ok (.agg #[.string ⟨#[]⟩,.string ⟨#[]⟩,.int IntKind.i64 0,.slice none 0 0]) w:=by kernel_rfl
theorem the_hasS {w:World} {S:List ShC} {V:List WlC} {n:ByteArray} (h:∀ z∈S,Has w (Ints z.a z.s.heights)):Has w (Ints (theSh S V n).a (theSh S V n).s.heights):=by
 unfold theSh
 split
 ·exact getSh_has h
 ·exact⟨fun _=>False,fun _ h=>h.elim,.inl rfl⟩
theorem the_hasW {w:World} {S:List ShC} {V:List WlC} {n:ByteArray} (h:∀ z∈V,Has w (Elems z.a 5 encOpn z.s.opens)):Has w (Elems (theWl S V n).a 5 encOpn (theWl S V n).s.opens):=by
 unfold theWl getWl
 split
 ·split
  ·rename_i hk
   exact h _ (getD_memS (by have:=wallI_lt hk; omega))
  ·exact⟨fun _=>False,fun _ h=>h.elim,.inl rfl⟩
 ·exact⟨fun _=>False,fun _ h=>h.elim,.inl rfl⟩
set_option maxRecDepth 100000 in
set_option maxHeartbeats 8000000 in
theorem find_c (a:Option Addr) (cap:Nat) (S:List ShC) (b:Option Addr) (bcap:Nat) (V:List WlC) (n:ByteArray) (w:World) (hl:Has w (Elems a 20 encSht S)) (hs:Small S.length) (hcS:S.length≤cap) (hlw:Has w (Elems b 4 encWll V)) (hsw:Small V.length) (hsh:∀ z∈S,Has w (Ints z.a z.s.heights)) (hss:∀ z∈S,Small z.s.heights.length) (hwo:∀ z∈V,Has w (Elems z.a 5 encOpn z.s.opens)) (hsv:∀ z∈V,Small z.s.opens.length) (hcp:∀ z∈V,z.s.opens.length≤z.cap) (hkn:∀ z∈V,∀ o∈z.s.opens,Knd o) :
  Calls Tryz.prog 62 #[.agg #[.slice a S.length cap,.slice b V.length bcap],.string n] w (Pure (.tuple #[.agg (encWll (theWl S V n)).toArray,.agg (encSht (theSh S V n)).toArray,.int .i64 (findE S V n)]) w):=by
 have hlt:=fun h=>wallI_lt (S:=V) (n:=n) h
 have hge:-1≤wallI V n:=findI_ge _ _
 refine calls_of_gk (vs:=[_,_]) Tryz.func62 rfl rfl (Nat.le_of_ble_eq_true rfl) ?_
 refine gk_seq ?_
 refine gk_region ?_
 refine gk_yx rfl rfl (yx_box (vs:=[_,_]) rfl rfl) fun b2=>?_
 refine gk_yx rfl rfl (yx_alloc tf94 (zs:=[_,_,_,_]) rfl) fun b4=>?_
 refine gk_yx rfl rfl (yx_alloc tf41 (zs:=[_,_,_,_,_,_,_,_,_,_,_,_,_,_,_,_,_,_,_,_]) rfl) fun b5=>?_
 refine gk_y rfl rfl (y_assign rfl) ?_
 refine gk_nil (gk_sub (T':=[(1,_),(2,_),(4,_),(5,_),(6,_)]) ⟨rfl,rfl,rfl,rfl,rfl,trivial⟩ ?_)
 refine gk_seq ?_
 refine gk_seq ?_
 refine gk_region ?_
 refine gk_y rfl rfl (y_loadBA 2 tf31 rfl rfl (vs:=[_,_]) rfl rfl) ?_
 refine gk_y rfl rfl (y_call en16 rfl (fun w hw=>check_c _ _ S _ _ V w (Rd.has (Has.rd hl) hw) hs hcS (Rd.has (Has.rd hlw) hw) hsw (fun z hz=>(Rd.has (Has.rd (hsh z hz)) hw)) hss (fun z hz=>(Rd.has (Has.rd (hwo z hz)) hw)) hsv hcp hkn)) ?_
 refine gk_y rfl rfl (y_assign rfl) ?_
 refine gk_nil (gk_sub (T':=[(1,_),(2,_),(4,_),(5,_),(6,_),(7,_)]) ⟨rfl,rfl,rfl,rfl,rfl,rfl,trivial⟩ ?_)
 refine gk_seq ?_
 refine gk_region ?_
 refine gk_y rfl rfl (y_move rfl) ?_
 refine gk_y rfl rfl (y_neq rfl rfl) ?_
 refine gk_nil (gk_sub (T':=[(1,_),(2,_),(4,_),(5,_),(6,_),(7,_),(14,_)]) ⟨rfl,rfl,rfl,rfl,rfl,rfl,rfl,trivial⟩ ?_)
 refine gk_cond rfl (fun hc14=>?_) (fun hc14=>?_)
 ·have hP:¬ planP S V=true:=fun h=>by rw [checkPl,if_pos h] at hc14; simp at hc14
  have hE:findE S V n=2:=find_bad hP
  have hC:checkPl S V=2:=if_neg hP
  refine gk_seq ?_
  refine gk_region ?_
  refine gk_y rfl rfl (y_buildL (parts:=[]) rfl bd94_) ?_
  refine gk_y rfl rfl (y_buildL (parts:=[]) rfl bd41_) ?_
  refine gk_y rfl rfl (y_move rfl) ?_
  refine gk_storeV 1 tf94 rfl rfl (vs:=[_,_,_,_]) rfl rfl rfl rfl rfl ?_
  refine gk_storeAll 0 tf41 rfl rfl (vs:=[_,_,_,_,_,_,_,_,_,_,_,_,_,_,_,_,_,_,_,_]) rfl rfl rfl rfl rfl ?_
  refine gk_y rfl rfl (y_assign rfl) ?_
  refine gk_nil (gk_sub (T':=[(1,_),(2,_),(4,_),(5,_),(6,_)]) ⟨rfl,rfl,rfl,rfl,rfl,trivial⟩ ?_)
  refine gk_ret ?_
  refine gk_pure (rv_three rfl (r1_cellA (i:=1) (vs:=[_,_,_,_]) tf94 rfl rfl rfl rfl) (r1_cellA (i:=0) (vs:=[.string ⟨#[]⟩,.int .i64 0,.int .i64 0,.int .i64 0,.int .i64 0,.slice none 0 0,.int .i64 0,.int .i64 0,.int .i64 0,.int .i64 0,.int .i64 0,.int .i64 0,.int .i64 0,.int .u8 0,.int .i64 0,.int .i64 0,.int .i64 0,.int .i64 0,.int .i64 0,.int .i64 0]) tf41 rfl rfl rfl rfl) (r1_tmp rfl)) ?_
  rw [hC]; rw [show theWl S V n=default from if_neg (by rw [hE]; decide),show theSh S V n=default from if_neg (by rw [hE]; decide),hE]; rfl
 ·have hP:planP S V=true:=Classical.byContradiction fun h=>by rw [checkPl,if_neg h] at hc14; simp at hc14
  refine gk_skip ?_
  refine gk_seq ?_
  refine gk_region ?_
  refine gk_y rfl rfl (y_loadBA 2 tf31 rfl rfl (vs:=[_,_]) rfl rfl) ?_
  refine gk_y rfl rfl (y_move rfl) ?_
  refine gk_y rfl rfl (y_call en47 rfl (fun w hw=>plwall_c _ _ _ _ _ V _ w (Rd.has (Has.rd hlw) hw) (by assumption))) ?_
  refine gk_y rfl rfl (y_assign rfl) ?_
  refine gk_nil (gk_sub (T':=[(2,_),(4,_),(5,_),(6,_),(8,_)]) ⟨rfl,rfl,rfl,rfl,rfl,trivial⟩ ?_)
  refine gk_seq ?_
  refine gk_seq ?_
  refine gk_region ?_
  refine gk_y rfl rfl (y_move rfl) ?_
  refine gk_y rfl rfl (y_lss rfl rfl) ?_
  refine gk_nil (gk_sub (T':=[(2,_),(4,_),(5,_),(6,_),(8,_),(22,_)]) ⟨rfl,rfl,rfl,rfl,rfl,rfl,trivial⟩ ?_)
  refine gk_cond rfl (fun hc22=>?_) (fun hc22=>?_)
  ·have hc22:=of_decide_eq_true hc22
   have hE:findE S V n=6:=find_none hP (by omega)
   refine gk_seq ?_
   refine gk_region ?_
   refine gk_y rfl rfl (y_buildL (parts:=[]) rfl bd94_) ?_
   refine gk_y rfl rfl (y_buildL (parts:=[]) rfl bd41_) ?_
   refine gk_storeV 1 tf94 rfl rfl (vs:=[_,_,_,_]) rfl rfl rfl rfl rfl ?_
   refine gk_storeAll 0 tf41 rfl rfl (vs:=[_,_,_,_,_,_,_,_,_,_,_,_,_,_,_,_,_,_,_,_]) rfl rfl rfl rfl rfl ?_
   refine gk_y rfl rfl (y_assign rfl) ?_
   refine gk_nil (gk_sub (T':=[(2,_),(4,_),(5,_),(6,_),(8,_)]) ⟨rfl,rfl,rfl,rfl,rfl,trivial⟩ ?_)
   refine gk_ret ?_
   refine gk_pure (rv_three rfl (r1_cellA (i:=1) (vs:=[_,_,_,_]) tf94 rfl rfl rfl rfl) (r1_cellA (i:=0) (vs:=[.string ⟨#[]⟩,.int .i64 0,.int .i64 0,.int .i64 0,.int .i64 0,.slice none 0 0,.int .i64 0,.int .i64 0,.int .i64 0,.int .i64 0,.int .i64 0,.int .i64 0,.int .i64 0,.int .u8 0,.int .i64 0,.int .i64 0,.int .i64 0,.int .i64 0,.int .i64 0,.int .i64 0]) tf41 rfl rfl rfl rfl) (r1_tmp rfl)) ?_
   rw [show theWl S V n=default from if_neg (by rw [hE]; decide),show theSh S V n=default from if_neg (by rw [hE]; decide),hE]; rfl
  ·have hc22:=of_decide_eq_false hc22
   have h0:0≤wallI V n:=by omega
   have h1:=hlt h0
   have hE:findE S V n=0:=find_ok hP h0
   refine gk_skip ?_
   refine gk_seq ?_
   refine gk_any3 (ch [(11,Nat)]) 14 [0,0,2,0,14,30,62,127,255,511,511,0,3071,8191] (fun _=>mixed) (by kernel_rfl) (ch_ne _ ⟨inferInstance,trivial⟩) ?_
   refine ph3_y (fun ρ=>y_loadBA 2 tf31 rfl rfl (vs:=[_,_]) rfl rfl) (fun ρ ρ' h=>by rfl) ?_
   refine ph3_y (fun ρ=>y_fieldAddr fo31_1 rfl) (fun ρ ρ' h=>by rfl) ?_
   refine ph3_y (fun ρ=>y_loadB1 2 tf29 rfl rfl rfl) (fun ρ ρ' h=>by rfl) ?_
   refine ph3_y (fun ρ=>y_move rfl) (fun ρ ρ' h=>by rfl) ?_
   refine ph3_y (fun ρ=>y_indexE se29 rfl rfl (fun _ hw=>(Rd.has (Has.rd hlw) hw)) (by omega) (by omega)) (fun ρ ρ' h=>by rfl) ?_
   refine ph3_y (fun ρ=>y_fieldE fo94_1 rfl (fun w hw=>elems_addr (i:=(wallI V n)) (Rd.has (Has.rd hlw) hw) (by omega) (by omega))) (fun ρ ρ' h=>by rfl) ?_
   refine ph3_y (fun ρ=>y_loadEF tf9 rfl (fun _ hw=>(Rd.has (Has.rd hlw) hw)) (by omega) (by omega) rfl) (fun ρ ρ' h=>by rfl) ?_
   refine ph3_y (fun ρ=>y_call en46 rfl (fun w hw=>plsheet_c _ _ S _ _ _ _ w (Rd.has (Has.rd hl) hw) (by assumption))) (fun ρ ρ' h=>by rfl) ?_
   refine ph3_y (fun ρ=>y_move rfl) (fun ρ ρ' h=>by rfl) ?_
   refine ph3_y (fun ρ=>y_extract rfl rfl) (fun ρ ρ' h=>by rfl) ?_
   refine ph3_y (fun ρ=>y_extract rfl rfl) (fun ρ ρ' h=>by rfl) ?_
   refine ph3_yx (fun ρ=>yx_alloc tf41 (zs:=[_,_,_,_,_,_,_,_,_,_,_,_,_,_,_,_,_,_,_,_]) rfl) (fun ρ ρ' h=>⟨by rfl,by rfl⟩) ?_
   refine ph3_st (R:=fun ρ=>Box (ρ 11) [.string ⟨#[]⟩,.int .i64 0,.int .i64 0,.int .i64 0,.int .i64 0,.slice none 0 0,.int .i64 0,.int .i64 0,.int .i64 0,.int .i64 0,.int .i64 0,.int .i64 0,.int .i64 0,.int .u8 0,.int .i64 0,.int .i64 0,.int .i64 0,.int .i64 0,.int .i64 0,.int .i64 0] 41) (A:=fun ρ=>Box (ρ 11) [.string (getSh S ((V.getD ((wallI V n)).toNat default).s.sheet)).s.name,.int .i64 ((getSh S ((V.getD ((wallI V n)).toNat default).s.sheet)).s.base),.int .i64 ((getSh S ((V.getD ((wallI V n)).toNat default).s.sheet)).s.batter),.int .i64 ((getSh S ((V.getD ((wallI V n)).toNat default).s.sheet)).s.height),.int .i64 ((getSh S ((V.getD ((wallI V n)).toNat default).s.sheet)).s.skin),.slice (getSh S ((V.getD ((wallI V n)).toNat default).s.sheet)).a (getSh S ((V.getD ((wallI V n)).toNat default).s.sheet)).s.heights.length (getSh S ((V.getD ((wallI V n)).toNat default).s.sheet)).cap,.int .i64 ((getSh S ((V.getD ((wallI V n)).toNat default).s.sheet)).s.least),.int .i64 ((getSh S ((V.getD ((wallI V n)).toNat default).s.sheet)).s.lap),.int .i64 ((getSh S ((V.getD ((wallI V n)).toNat default).s.sheet)).s.run),.int .i64 ((getSh S ((V.getD ((wallI V n)).toNat default).s.sheet)).s.every),.int .i64 ((getSh S ((V.getD ((wallI V n)).toNat default).s.sheet)).s.at_),.int .i64 ((getSh S ((V.getD ((wallI V n)).toNat default).s.sheet)).s.footing),.int .i64 ((getSh S ((V.getD ((wallI V n)).toNat default).s.sheet)).s.spread),.int .u8 (getSh S ((V.getD ((wallI V n)).toNat default).s.sheet)).s.cope,.int .i64 ((getSh S ((V.getD ((wallI V n)).toNat default).s.sheet)).s.tall),.int .i64 ((getSh S ((V.getD ((wallI V n)).toNat default).s.sheet)).s.short),.int .i64 ((getSh S ((V.getD ((wallI V n)).toNat default).s.sheet)).s.thick),.int .i64 ((getSh S ((V.getD ((wallI V n)).toNat default).s.sheet)).s.low),.int .i64 ((getSh S ((V.getD ((wallI V n)).toNat default).s.sheet)).s.high),.int .i64 ((getSh S ((V.getD ((wallI V n)).toNat default).s.sheet)).s.rood)] 41) 11 rfl rfl (fun _=>rfl) (fun ρ=>so_box tf41 rfl rfl (vs:=[_,_,_,_,_,_,_,_,_,_,_,_,_,_,_,_,_,_,_,_]) rfl rfl rfl rfl rfl) (fun ρ ρ' h=>by(first | rfl | simp only [h 11 rfl])) ?_
   refine ph3_y (fun ρ=>y_assign rfl) (fun ρ ρ' h=>by rfl) ?_
   refine fun ρ=>gk_nil (gk_name (X:=Nat) (ρ 11) (fun b9=>[(2,.pointer (some ⟨b2,0,none⟩)),(4,.pointer (some ⟨b4,0,none⟩)),(5,.pointer (some ⟨b5,0,none⟩)),(6,.int .i64 0),(8,.int .i64 (wallI V n)),(9,.pointer (some ⟨b9,0,none⟩))]) (fun b9=>[Box b9 [.string (getSh S ((V.getD ((wallI V n)).toNat default).s.sheet)).s.name,.int .i64 ((getSh S ((V.getD ((wallI V n)).toNat default).s.sheet)).s.base),.int .i64 ((getSh S ((V.getD ((wallI V n)).toNat default).s.sheet)).s.batter),.int .i64 ((getSh S ((V.getD ((wallI V n)).toNat default).s.sheet)).s.height),.int .i64 ((getSh S ((V.getD ((wallI V n)).toNat default).s.sheet)).s.skin),.slice (getSh S ((V.getD ((wallI V n)).toNat default).s.sheet)).a (getSh S ((V.getD ((wallI V n)).toNat default).s.sheet)).s.heights.length (getSh S ((V.getD ((wallI V n)).toNat default).s.sheet)).cap,.int .i64 ((getSh S ((V.getD ((wallI V n)).toNat default).s.sheet)).s.least),.int .i64 ((getSh S ((V.getD ((wallI V n)).toNat default).s.sheet)).s.lap),.int .i64 ((getSh S ((V.getD ((wallI V n)).toNat default).s.sheet)).s.run),.int .i64 ((getSh S ((V.getD ((wallI V n)).toNat default).s.sheet)).s.every),.int .i64 ((getSh S ((V.getD ((wallI V n)).toNat default).s.sheet)).s.at_),.int .i64 ((getSh S ((V.getD ((wallI V n)).toNat default).s.sheet)).s.footing),.int .i64 ((getSh S ((V.getD ((wallI V n)).toNat default).s.sheet)).s.spread),.int .u8 (getSh S ((V.getD ((wallI V n)).toNat default).s.sheet)).s.cope,.int .i64 ((getSh S ((V.getD ((wallI V n)).toNat default).s.sheet)).s.tall),.int .i64 ((getSh S ((V.getD ((wallI V n)).toNat default).s.sheet)).s.short),.int .i64 ((getSh S ((V.getD ((wallI V n)).toNat default).s.sheet)).s.thick),.int .i64 ((getSh S ((V.getD ((wallI V n)).toNat default).s.sheet)).s.low),.int .i64 ((getSh S ((V.getD ((wallI V n)).toNat default).s.sheet)).s.high),.int .i64 ((getSh S ((V.getD ((wallI V n)).toNat default).s.sheet)).s.rood)] 41,Box b5 [.string ⟨#[]⟩,.int .i64 0,.int .i64 0,.int .i64 0,.int .i64 0,.slice none 0 0,.int .i64 0,.int .i64 0,.int .i64 0,.int .i64 0,.int .i64 0,.int .i64 0,.int .i64 0,.int .u8 0,.int .i64 0,.int .i64 0,.int .i64 0,.int .i64 0,.int .i64 0,.int .i64 0] 41,Box b4 [.string ⟨#[]⟩,.string ⟨#[]⟩,.int .i64 0,.slice none 0 0] 94,Box b2 [.slice a S.length cap,.slice b V.length bcap] 31]) ⟨rfl,rfl,rfl,rfl,rfl,rfl,trivial⟩ rfl ?_)
   rintro b9
   refine gk_seq ?_
   refine gk_anyS (R':=Box b4 [.string (V.getD ((wallI V n)).toNat default).s.name,.string (V.getD ((wallI V n)).toNat default).s.sheet,.int .i64 ((V.getD ((wallI V n)).toNat default).s.length),.slice (V.getD ((wallI V n)).toNat default).a (V.getD ((wallI V n)).toNat default).s.opens.length (V.getD ((wallI V n)).toNat default).cap] 94) 6 [5] 2 (fun _=>mixed) rfl rfl (by kernel_rfl) rfl ?_
   refine phs_y (y_fieldAddr fo31_1 rfl) ?_
   refine phs_y (y_loadB1 3 tf29 rfl rfl rfl) ?_
   refine phs_y (y_move rfl) ?_
   refine phs_y (y_indexE se29 rfl rfl (fun _ hw=>(Rd.has (Has.rd hlw) hw)) (by omega) (by omega)) ?_
   refine phs_y (y_loadE (vs:=[_,_,_,_]) tf94 rfl (fun _ hw=>(Rd.has (Has.rd hlw) hw)) (by omega) (by omega) rfl) ?_
   refine phs_y (y_loadBA 0 tf41 rfl rfl (vs:=[_,_,_,_,_,_,_,_,_,_,_,_,_,_,_,_,_,_,_,_]) rfl rfl) ?_
   refine⟨so_box tf94 rfl rfl (vs:=[_,_,_,_]) rfl rfl rfl rfl rfl,?_⟩
   refine gk_sub (T':=[(4,_),(5,_),(6,_),(41,_)]) ⟨rfl,rfl,rfl,rfl,trivial⟩ ?_
   refine gk_storeAll 1 tf41 rfl rfl (vs:=[_,_,_,_,_,_,_,_,_,_,_,_,_,_,_,_,_,_,_,_]) rfl rfl rfl rfl rfl ?_
   refine gk_y rfl rfl (y_assign rfl) ?_
   refine gk_nil (gk_sub (T':=[(4,_),(5,_),(6,_)]) ⟨rfl,rfl,rfl,trivial⟩ ?_)
   refine gk_ret ?_
   refine gk_pure (rv_three rfl (r1_cellA (i:=2) (vs:=[_,_,_,_]) tf94 rfl rfl rfl rfl) (r1_cellA (i:=1) (vs:=[.string (getSh S ((V.getD ((wallI V n)).toNat default).s.sheet)).s.name,.int .i64 ((getSh S ((V.getD ((wallI V n)).toNat default).s.sheet)).s.base),.int .i64 ((getSh S ((V.getD ((wallI V n)).toNat default).s.sheet)).s.batter),.int .i64 ((getSh S ((V.getD ((wallI V n)).toNat default).s.sheet)).s.height),.int .i64 ((getSh S ((V.getD ((wallI V n)).toNat default).s.sheet)).s.skin),.slice (getSh S ((V.getD ((wallI V n)).toNat default).s.sheet)).a (getSh S ((V.getD ((wallI V n)).toNat default).s.sheet)).s.heights.length (getSh S ((V.getD ((wallI V n)).toNat default).s.sheet)).cap,.int .i64 ((getSh S ((V.getD ((wallI V n)).toNat default).s.sheet)).s.least),.int .i64 ((getSh S ((V.getD ((wallI V n)).toNat default).s.sheet)).s.lap),.int .i64 ((getSh S ((V.getD ((wallI V n)).toNat default).s.sheet)).s.run),.int .i64 ((getSh S ((V.getD ((wallI V n)).toNat default).s.sheet)).s.every),.int .i64 ((getSh S ((V.getD ((wallI V n)).toNat default).s.sheet)).s.at_),.int .i64 ((getSh S ((V.getD ((wallI V n)).toNat default).s.sheet)).s.footing),.int .i64 ((getSh S ((V.getD ((wallI V n)).toNat default).s.sheet)).s.spread),.int .u8 (getSh S ((V.getD ((wallI V n)).toNat default).s.sheet)).s.cope,.int .i64 ((getSh S ((V.getD ((wallI V n)).toNat default).s.sheet)).s.tall),.int .i64 ((getSh S ((V.getD ((wallI V n)).toNat default).s.sheet)).s.short),.int .i64 ((getSh S ((V.getD ((wallI V n)).toNat default).s.sheet)).s.thick),.int .i64 ((getSh S ((V.getD ((wallI V n)).toNat default).s.sheet)).s.low),.int .i64 ((getSh S ((V.getD ((wallI V n)).toNat default).s.sheet)).s.high),.int .i64 ((getSh S ((V.getD ((wallI V n)).toNat default).s.sheet)).s.rood)]) tf41 rfl rfl rfl rfl) (r1_tmp rfl)) ?_
   rw [theWl_eq hE,theSh_eq hE,hE,show getWl V n=V.getD (wallI V n).toNat default from if_pos h0]
end Go.Proofs.YtdcfcfhmkfkgmaaGreatDoor
namespace Go.Proofs.YtdcfcfhmkfkgmaaGreatDoor
open Go.K Go.Stn Go.Pln Go.RowKit
theorem en62:En Tryz.prog 62:=en_of Tryz.func62 (by kernel_rfl) (by kernel_rfl)
theorem en63:En Tryz.prog 63:=en_of Tryz.func63 (by kernel_rfl) (by kernel_rfl)
theorem en95:En Tryz.prog 95:=en_of Tryz.func95 (by kernel_rfl) (by kernel_rfl)
theorem en96:En Tryz.prog 96:=en_of Tryz.func96 (by kernel_rfl) (by kernel_rfl)
set_option maxRecDepth 100000 in
set_option maxHeartbeats 1000000 in
theorem bays_c (b:Option Addr) (bcap:Nat) (v:Wll) (c:Crs) (top:Int) (w:World) (hv:Has w (Elems b 5 encOpn v.opens)) (hF:WallF v top) (ht:top≤3000) :
  Calls Tryz.prog 63 #[.agg #[.string v.name,.string v.sheet,.int .i64 v.length,.slice b v.opens.length bcap],.agg #[.int .i64 c.frm,.int .i64 c.to]] w (Gives (fun z:Option Addr×Nat=>.slice z.1 (baysC v c).length z.2) (fun z=>Row z.1 2 z.2 69 encCrs (baysC v c)) w):=by
 refine calls_of_gk (vs:=[_,_]) Tryz.func63 rfl rfl (Nat.le_of_ble_eq_true rfl) ?_
 refine gk_seq ?_
 refine gk_region ?_
 refine gk_yx rfl rfl (yx_box (vs:=[_,_,_,_]) rfl rfl) fun b2=>?_
 refine gk_yx rfl rfl (yx_box (vs:=[_,_]) rfl rfl) fun b3=>?_
 refine gk_y rfl rfl (y_assign rfl) ?_
 refine gk_nil (gk_sub (T':=[(2,_),(3,_),(4,_)]) ⟨rfl,rfl,rfl,trivial⟩ ?_)
 refine gk_seq ?_
 refine gk_region ?_
 refine gk_y rfl rfl (y_loadBA 1 tf94 rfl rfl (vs:=[_,_,_,_]) rfl rfl) ?_
 refine gk_y rfl rfl (y_makeFunc («as»:=[]) (bs:=[_]) rfl rfl) ?_
 refine gk_yx rfl rfl (yx_call en95 rfl (fun w hw=>without_c _ _ v top (inCrsW c) 96 [.pointer (some ⟨b3,0,none⟩)] en96 (Box b3 [.int .i64 c.frm,.int .i64 c.to] 49) w (Rd.has (Has.rd hv) hw) hF (hw.has (p:=0) rfl) (fun o w' hm=>bays1_c o c b3 w' hm))) fun p7=>?_
 refine gk_y rfl rfl (y_assign rfl) ?_
 refine gk_nil (gk_sub (T':=[(4,_)]) ⟨rfl,trivial⟩ ?_)
 refine gk_ret ?_
 refine gk_gives p7 0 (rv_one rfl (r1_tmp rfl)) ?_ (by rw [←bays_crs hF ht c]; rfl)
 rw [bays_crs hF ht c]
set_option maxRecDepth 100000 in
set_option maxHeartbeats 8000000 in
theorem Bays_c (a:Option Addr) (cap:Nat) (S:List ShC) (b:Option Addr) (bcap:Nat) (V:List WlC) (n:ByteArray) (k:Int) (w:World) (hl:Has w (Elems a 20 encSht S)) (hs:Small S.length) (hcS:S.length≤cap) (hlw:Has w (Elems b 4 encWll V)) (hsw:Small V.length) (hsh:∀ z∈S,Has w (Ints z.a z.s.heights)) (hss:∀ z∈S,Small z.s.heights.length) (hwo:∀ z∈V,Has w (Elems z.a 5 encOpn z.s.opens)) (hsv:∀ z∈V,Small z.s.opens.length) (hcp:∀ z∈V,z.s.opens.length≤z.cap) (hkn:∀ z∈V,∀ o∈z.s.opens,Knd o) :
  Calls Tryz.prog 26 #[.agg #[.slice a S.length cap,.slice b V.length bcap],.string n,.int .i64 k] w (Gives (fun z:Option Addr×Nat=>.tuple #[.slice z.1 (baysA S V n k).length z.2,.int .i64 (baysE S V n k)]) (fun z=>Row z.1 2 z.2 69 encCrs (baysA S V n k)) w):=by
 refine calls_of_gk (vs:=[_,_,_]) Tryz.func26 rfl rfl (Nat.le_of_ble_eq_true rfl) ?_
 refine gk_seq ?_
 refine gk_region ?_
 refine gk_yx rfl rfl (yx_box (vs:=[_,_]) rfl rfl) fun b3=>?_
 refine gk_y rfl rfl (y_assign rfl) ?_
 refine gk_y rfl rfl (y_assign rfl) ?_
 refine gk_nil (gk_sub (T':=[(1,_),(2,_),(3,_),(6,_),(7,_)]) ⟨rfl,rfl,rfl,rfl,rfl,trivial⟩ ?_)
 refine gk_seq ?_
 refine gk_region ?_
 refine gk_y rfl rfl (y_loadBA 0 tf31 rfl rfl (vs:=[_,_]) rfl rfl) ?_
 refine gk_y rfl rfl (y_move rfl) ?_
 refine gk_y rfl rfl (y_call en62 rfl (fun w hw=>find_c _ _ S _ _ V n w (Rd.has (Has.rd hl) hw) hs hcS (Rd.has (Has.rd hlw) hw) hsw (fun z hz=>(Rd.has (Has.rd (hsh z hz)) hw)) hss (fun z hz=>(Rd.has (Has.rd (hwo z hz)) hw)) hsv hcp hkn)) ?_
 refine gk_y rfl rfl (y_move rfl) ?_
 refine gk_y rfl rfl (y_extract rfl rfl) ?_
 refine gk_y rfl rfl (y_extract rfl rfl) ?_
 refine gk_y rfl rfl (y_extract rfl rfl) ?_
 refine gk_yx rfl rfl (yx_alloc tf94 (zs:=[_,_,_,_]) rfl) fun b8=>?_
 refine gk_yx rfl rfl (yx_alloc tf41 (zs:=[_,_,_,_,_,_,_,_,_,_,_,_,_,_,_,_,_,_,_,_]) rfl) fun b9=>?_
 refine gk_storeV 1 tf94 rfl rfl (vs:=[_,_,_,_]) rfl rfl rfl rfl rfl ?_
 refine gk_storeAll 0 tf41 rfl rfl (vs:=[_,_,_,_,_,_,_,_,_,_,_,_,_,_,_,_,_,_,_,_]) rfl rfl rfl rfl rfl ?_
 refine gk_y rfl rfl (y_assign rfl) ?_
 refine gk_nil (gk_sub (T':=[(2,_),(6,_),(7,_),(8,_),(9,_),(10,_)]) ⟨rfl,rfl,rfl,rfl,rfl,rfl,trivial⟩ ?_)
 refine gk_seq ?_
 refine gk_seq ?_
 refine gk_region ?_
 refine gk_y rfl rfl (y_move rfl) ?_
 refine gk_y rfl rfl (y_neq rfl rfl) ?_
 refine gk_nil (gk_sub (T':=[(2,_),(6,_),(7,_),(8,_),(9,_),(10,_),(20,_)]) ⟨rfl,rfl,rfl,rfl,rfl,rfl,rfl,trivial⟩ ?_)
 refine gk_cond rfl (fun hc20=>?_) (fun hc20=>?_)
 ·have hE:¬ findE S V n=0:=by simpa using hc20
  obtain⟨e1,e2⟩:=baysE_no (k:=k) hE
  refine gk_newNil 69 encCrs 2 ?_
  refine gk_seq ?_
  refine gk_region ?_
  refine gk_y rfl rfl (y_move rfl) ?_
  refine gk_y rfl rfl (y_assign rfl) ?_
  refine gk_y rfl rfl (y_assign rfl) ?_
  refine gk_nil (gk_sub (T':=[(2,_),(6,_),(7,_),(8,_),(9,_)]) ⟨rfl,rfl,rfl,rfl,rfl,trivial⟩ ?_)
  refine gk_ret ?_
  refine gk_gives (none,0) 0 (rv_two rfl (r1_tmp rfl) (r1_tmp rfl)) ?_ (by rw [e2]; rfl)
  rw [e1,e2] <;> rfl
 ·have hE:findE S V n=0:=by simpa using hc20
  obtain⟨m1,m2,hsp,hF⟩:=the_facts hE
  have hnm:=sheetP_nums hsp
  have htop:=hnm.height
  refine gk_skip ?_
  refine gk_seq ?_
  refine gk_region ?_
  refine gk_y rfl rfl (y_loadBA 0 tf41 rfl rfl (vs:=[_,_,_,_,_,_,_,_,_,_,_,_,_,_,_,_,_,_,_,_]) rfl rfl) ?_
  refine gk_yx rfl rfl (yx_call en49 rfl (fun w hw=>courses_c ((theSh S V n).a) ((theSh S V n).cap) ((theSh S V n).s) w (Rd.has (Has.rd (the_hasS hsh)) hw) hnm)) fun p23=>?_
  refine gk_y rfl rfl (y_assign rfl) ?_
  refine gk_nil (gk_sub (T':=[(2,_),(6,_),(7,_),(8,_),(11,_)]) ⟨rfl,rfl,rfl,rfl,rfl,trivial⟩ ?_)
  refine gk_seq ?_
  refine gk_seq ?_
  refine gk_any 8 (fun _=>mixed) (by kernel_rfl) ?_
  refine ph_y (y_move rfl) ?_
  refine ph_y (y_lss rfl rfl) ?_
  refine ph_y (y_move rfl) ?_
  refine ph_gF rfl rfl (fun hgd=>by(try rw [hgd]); exact(y_move rfl)) ?_
  refine ph_gF rfl rfl (fun hgd=>by(try rw [hgd]); exact(y_move rfl)) ?_
  refine ph_gF rfl rfl (fun hgd=>by(try rw [hgd]); exact(y_lenS (Tryz.underlying38) rfl)) ?_
  refine ph_gF rfl rfl (fun hgd=>by(try rw [hgd]); exact(y_geq rfl rfl)) ?_
  refine ph_y (y_pickOr rfl rfl rfl) ?_
  refine gk_nil (gk_sub (T':=[(2,_),(6,_),(7,_),(8,_),(11,_),(31,_)]) ⟨rfl,rfl,rfl,rfl,rfl,rfl,trivial⟩ ?_)
  refine gk_cond rfl (fun hc31=>?_) (fun hc31=>?_)
  ·obtain⟨e1,e2⟩:=baysE_out (k:=k) hE (by simpa only [Bool.or_eq_true,decide_eq_true_eq] using hc31)
   refine gk_newNil 69 encCrs 2 ?_
   refine gk_seq ?_
   refine gk_region ?_
   refine gk_y rfl rfl (y_assign rfl) ?_
   refine gk_y rfl rfl (y_assign rfl) ?_
   refine gk_nil (gk_sub (T':=[(2,_),(6,_),(7,_),(8,_),(11,_)]) ⟨rfl,rfl,rfl,rfl,rfl,trivial⟩ ?_)
   refine gk_ret ?_
   refine gk_gives (none,0) 0 (rv_two rfl (r1_tmp rfl) (r1_tmp rfl)) ?_ (by rw [e2]; rfl)
   rw [e1,e2] <;> rfl
  ·have hk:¬ (k < 0∨((coursesL (theSh S V n).s).length:Int)≤k):=by simp only [Bool.or_eq_false_iff,decide_eq_false_iff_not] at hc31; omega
   obtain⟨e1,e2⟩:=baysE_in (k:=k) hE hk
   refine gk_skip ?_
   refine gk_seq ?_
   refine gk_any 6 (fun _=>mixed) (by kernel_rfl) ?_
   refine ph_y (y_loadBA 2 tf94 rfl rfl (vs:=[_,_,_,_]) rfl rfl) ?_
   refine ph_y (y_move rfl) ?_
   refine ph_y (y_move rfl) ?_
   refine ph_y (y_indexE se38 rfl rfl (fun _ hw=>(has_row encCrs_ok (hw.has (p:=0) rfl))) (by omega) (by omega)) ?_
   refine ph_y (y_loadE (vs:=[_,_]) tf49 rfl (fun _ hw=>(has_row encCrs_ok (hw.has (p:=0) rfl))) (by omega) (by omega) rfl) ?_
   refine ph_yx (yx_call en63 rfl (fun w hw=>bays_c _ _ (theWl S V n).s ((coursesL (theSh S V n).s).getD k.toNat default) _ w (Rd.has (Has.rd (the_hasW hwo)) hw) hF (by omega))) ?_
   intro p37
   refine gk_sub (T':=[(6,_),(7,_),(37,_)]) ⟨rfl,rfl,rfl,trivial⟩ ?_
   refine gk_y rfl rfl (y_assign rfl) ?_
   refine gk_y rfl rfl (y_assign rfl) ?_
   refine gk_nil (gk_sub (T':=[(6,_),(7,_)]) ⟨rfl,rfl,trivial⟩ ?_)
   refine gk_ret ?_
   refine gk_gives p37 0 (rv_two rfl (r1_tmp rfl) (r1_tmp rfl)) ?_ (by rw [e2]; rfl)
   rw [e1,e2] <;> rfl
end Go.Proofs.YtdcfcfhmkfkgmaaGreatDoor
namespace Go.Proofs.YtdcfcfhmkfkgmaaGreatDoor
open Go.K Go.Stn Go.Pln Go.RowKit
theorem fo69_0:FO Tryz.prog 69 0 0:=⟨by kernel_rfl⟩
theorem fo69_1:FO Tryz.prog 69 1 1:=⟨by kernel_rfl⟩
theorem en97:En Tryz.prog 97:=en_of Tryz.func97 (by kernel_rfl) (by kernel_rfl)
theorem en98:En Tryz.prog 98:=en_of Tryz.func98 (by kernel_rfl) (by kernel_rfl)
theorem en99:En Tryz.prog 99:=en_of Tryz.func99 (by kernel_rfl) (by kernel_rfl)
theorem en100:En Tryz.prog 100:=en_of Tryz.func100 (by kernel_rfl) (by kernel_rfl)
set_option maxRecDepth 100000 in
set_option maxHeartbeats 1000000 in
theorem thr1_c (c:Crs) (a:Option Addr) (cap:Nat) (s:Sht) (b:Nat) (w:World) (hb:Has w (Box b [.string s.name,.int .i64 s.base,.int .i64 s.batter,.int .i64 s.height,.int .i64 s.skin,.slice a s.heights.length cap,.int .i64 s.least,.int .i64 s.lap,.int .i64 s.run,.int .i64 s.every,.int .i64 s.at_,.int .i64 s.footing,.int .i64 s.spread,.int .u8 s.cope,.int .i64 s.tall,.int .i64 s.short,.int .i64 s.thick,.int .i64 s.low,.int .i64 s.high,.int .i64 s.rood] 41)) :
  Calls Tryz.prog 98 #[.agg #[.int .i64 c.frm,.int .i64 c.to],.pointer (some ⟨b,0,none⟩)] w (Pure (.bool (decide (s.at_≤c.frm))) w):=by
 refine calls_of_gk (vs:=[_,_]) Tryz.func98 rfl rfl (Nat.le_of_ble_eq_true rfl) ?_
 refine gk_seq ?_
 refine gk_region ?_
 refine gk_yx rfl rfl (yx_box (vs:=[_,_]) rfl rfl) fun b2=>?_
 refine gk_y rfl rfl (y_assign rfl) ?_
 refine gk_nil (gk_sub (T':=[(1,_),(2,_),(3,_)]) ⟨rfl,rfl,rfl,trivial⟩ ?_)
 refine gk_seq ?_
 refine gk_region ?_
 refine gk_y rfl rfl (y_fieldAddr fo49_0 rfl) ?_
 refine gk_y rfl rfl (y_loadB1 0 tf3 rfl rfl rfl) ?_
 refine gk_y rfl rfl (y_fieldAddr fo41_10 rfl) ?_
 refine gk_y rfl rfl (y_load1 tf3 rfl (fun _ hw=>has_box_cell (Rd.has (Has.rd hb) hw) rfl)) ?_
 refine gk_y rfl rfl (y_geq rfl rfl) ?_
 refine gk_y rfl rfl (y_assign rfl) ?_
 refine gk_nil (gk_sub (T':=[(3,_)]) ⟨rfl,trivial⟩ ?_)
 refine gk_ret ?_
 refine gk_pure (rv_one rfl (r1_tmp rfl)) ?_
 rfl
set_option maxRecDepth 100000 in
set_option maxHeartbeats 1000000 in
theorem thr2_c (c:Crs) (x:Int) (b:Nat) (w:World) (hb:Has w (Box b [.int .i64 x] 3)) :
  Calls Tryz.prog 100 #[.agg #[.int .i64 c.frm,.int .i64 c.to],.pointer (some ⟨b,0,none⟩)] w (Pure (.bool (decide (c.frm < x)&&decide (x < c.to))) w):=by
 refine calls_of_gk (vs:=[_,_]) Tryz.func100 rfl rfl (Nat.le_of_ble_eq_true rfl) ?_
 refine gk_seq ?_
 refine gk_region ?_
 refine gk_yx rfl rfl (yx_box (vs:=[_,_]) rfl rfl) fun b2=>?_
 refine gk_y rfl rfl (y_assign rfl) ?_
 refine gk_nil (gk_sub (T':=[(1,_),(2,_),(3,_)]) ⟨rfl,rfl,rfl,trivial⟩ ?_)
 refine gk_seq ?_
 refine gk_any 11 (fun _=>mixed) (by kernel_rfl) ?_
 refine ph_y (y_fieldAddr fo69_0 rfl) ?_
 refine ph_y (y_loadB1 0 tf3 rfl rfl rfl) ?_
 refine ph_y (y_load1 tf3 rfl (fun _ hw=>has_box_cell (Rd.has (Has.rd hb) hw) rfl)) ?_
 refine ph_y (y_lss rfl rfl) ?_
 refine ph_y (y_move rfl) ?_
 refine ph_gT rfl rfl (fun hgd=>by(try rw [hgd]); exact(y_load1 tf3 rfl (fun _ hw=>has_box_cell (Rd.has (Has.rd hb) hw) rfl))) ?_
 refine ph_gT rfl rfl (fun hgd=>by(try rw [hgd]); exact(y_fieldAddr fo69_1 rfl)) ?_
 refine ph_gT rfl rfl (fun hgd=>by(try rw [hgd]); exact(y_loadB1 0 tf3 rfl rfl rfl)) ?_
 refine ph_gT rfl rfl (fun hgd=>by(try rw [hgd]); exact(y_lss rfl rfl)) ?_
 refine ph_y (y_pickAnd rfl rfl rfl) ?_
 refine ph_y (y_assign rfl) ?_
 refine gk_nil (gk_sub (T':=[(3,_)]) ⟨rfl,trivial⟩ ?_)
 refine gk_ret ?_
 refine gk_pure (rv_one rfl (r1_tmp rfl)) ?_
 rfl
set_option maxRecDepth 100000 in
set_option maxHeartbeats 8000000 in
theorem throughs_c (b:Option Addr) (bcap:Nat) (v:Wll) (a:Option Addr) (cap:Nat) (s:Sht) (w:World) (hv:Has w (Elems b 5 encOpn v.opens)) (hl:Has w (Ints a s.heights)) (hF:WallF v s.height) (hsp:sheetP s=true) :
  Calls Tryz.prog 65 #[.agg #[.string v.name,.string v.sheet,.int .i64 v.length,.slice b v.opens.length bcap],.agg #[.string s.name,.int .i64 s.base,.int .i64 s.batter,.int .i64 s.height,.int .i64 s.skin,.slice a s.heights.length cap,.int .i64 s.least,.int .i64 s.lap,.int .i64 s.run,.int .i64 s.every,.int .i64 s.at_,.int .i64 s.footing,.int .i64 s.spread,.int .u8 s.cope,.int .i64 s.tall,.int .i64 s.short,.int .i64 s.thick,.int .i64 s.low,.int .i64 s.high,.int .i64 s.rood]] w (Gives (fun z:Option Addr×Nat=>.tuple #[.int .i64 (thrAt s),.slice z.1 (thrL v s).length z.2]) (fun z=>Row z.1 1 z.2 3 Go.Stn.encI (thrL v s)) w):=by
 have hnm:=sheetP_nums hsp
 have htop:=hnm.height
 have hlen:=hF.len
 have hncr:=sheetP_courses hsp
 have hti:=Pln.findI_lt (fun c:Crs=>decide (s.at_≤c.frm)) (coursesL s)
 have hbn:=baysP_num hF (inCrs ((coursesL s).getD (thrI s).toNat default))
 refine calls_of_gk (vs:=[_,_]) Tryz.func65 rfl rfl (Nat.le_of_ble_eq_true rfl) ?_
 refine gk_seq ?_
 refine gk_region ?_
 refine gk_yx rfl rfl (yx_box (vs:=[_,_,_,_]) rfl rfl) fun b2=>?_
 refine gk_yx rfl rfl (yx_box (vs:=[_,_,_,_,_,_,_,_,_,_,_,_,_,_,_,_,_,_,_,_]) rfl rfl) fun b3=>?_
 refine gk_y rfl rfl (y_assign rfl) ?_
 refine gk_y rfl rfl (y_assign rfl) ?_
 refine gk_nil (gk_sub (T':=[(2,_),(3,_),(4,_),(5,_)]) ⟨rfl,rfl,rfl,rfl,trivial⟩ ?_)
 refine gk_seq ?_
 refine gk_region ?_
 refine gk_y rfl rfl (y_loadBA 0 tf41 rfl rfl (vs:=[_,_,_,_,_,_,_,_,_,_,_,_,_,_,_,_,_,_,_,_]) rfl rfl) ?_
 refine gk_yx rfl rfl (yx_call en49 rfl (fun w hw=>courses_c a cap s w (Rd.has (Has.rd hl) hw) hnm)) fun p12=>?_
 refine gk_y rfl rfl (y_assign rfl) ?_
 refine gk_nil (gk_sub (T':=[(2,_),(3,_),(4,_),(5,_),(6,_)]) ⟨rfl,rfl,rfl,rfl,rfl,trivial⟩ ?_)
 refine gk_seq ?_
 refine gk_region ?_
 refine gk_y rfl rfl (y_move rfl) ?_
 refine gk_y rfl rfl (y_makeFunc («as»:=[]) (bs:=[_]) rfl rfl) ?_
 refine gk_y rfl rfl (y_call en97 rfl (fun w hw=>show Calls _ _ _ w (Pure (.int .i64 (thrI s)) w) from indexfuncC_c _ _ (coursesL s) (fun c:Crs=>decide (s.at_≤c.frm)) 98 [] [.pointer (some ⟨b3,0,none⟩)] w (has_row encCrs_ok (hw.has (p:=0) rfl)) (by unfold Small; omega) (fun w'=>Has w' (Box b3 [.string s.name,.int .i64 s.base,.int .i64 s.batter,.int .i64 s.height,.int .i64 s.skin,.slice a s.heights.length cap,.int .i64 s.least,.int .i64 s.lap,.int .i64 s.run,.int .i64 s.every,.int .i64 s.at_,.int .i64 s.footing,.int .i64 s.spread,.int .u8 s.cope,.int .i64 s.tall,.int .i64 s.short,.int .i64 s.thick,.int .i64 s.low,.int .i64 s.high,.int .i64 s.rood] 41)) (fun w' hx=>Has.ext (hw.has (p:=1) rfl) hx) en98 (fun z w' hm=>thr1_c z a cap s b3 w' hm))) ?_
 refine gk_y rfl rfl (y_assign rfl) ?_
 refine gk_nil (gk_sub (T':=[(2,_),(3,_),(4,_),(5,_),(6,_),(7,_)]) ⟨rfl,rfl,rfl,rfl,rfl,rfl,trivial⟩ ?_)
 refine gk_seq ?_
 refine gk_seq ?_
 refine gk_any 7 (fun _=>mixed) (by kernel_rfl) ?_
 refine ph_y (y_fieldAddr fo41_9 rfl) ?_
 refine ph_y (y_loadB1 1 tf3 rfl rfl rfl) ?_
 refine ph_y (y_eql rfl rfl) ?_
 refine ph_y (y_move rfl) ?_
 refine ph_gF rfl rfl (fun hgd=>by(try rw [hgd]); (try have hgd2:=hgd); exact(y_move rfl)) ?_
 refine ph_gF rfl rfl (fun hgd=>by(try rw [hgd]); (try have hgd2:=hgd); exact(y_lss rfl rfl)) ?_
 refine ph_y (y_pickOr rfl rfl rfl) ?_
 refine gk_nil (gk_sub (T':=[(2,_),(3,_),(4,_),(5,_),(6,_),(7,_),(22,_)]) ⟨rfl,rfl,rfl,rfl,rfl,rfl,rfl,trivial⟩ ?_)
 refine gk_cond rfl (fun hc22=>?_) (fun hc22=>?_)
 ·have hno:thrNo s=true:=hc22
  have e1:thrAt s = -1:=if_pos hno
  have e2:thrL v s=[]:=if_pos hno
  refine gk_newNil 3 Go.Stn.encI 1 ?_
  refine gk_seq ?_
  refine gk_region ?_
  refine gk_y rfl rfl (y_assign rfl) ?_
  refine gk_y rfl rfl (y_assign rfl) ?_
  refine gk_nil (gk_sub (T':=[(2,_),(3,_),(4,_),(5,_),(6,_),(7,_)]) ⟨rfl,rfl,rfl,rfl,rfl,rfl,trivial⟩ ?_)
  refine gk_ret ?_
  refine gk_gives (none,0) 0 (rv_two rfl (r1_tmp rfl) (r1_tmp rfl)) ?_ (by rw [e2]; rfl)
  rw [e1,e2] <;> rfl
 ·have hno:thrNo s=false:=hc22
  have hno2:=hno
  unfold thrNo at hno2
  rw [Bool.or_eq_false_iff,decide_eq_false_iff_not,decide_eq_false_iff_not] at hno2
  obtain⟨h1,h2⟩:=hno2
  have e1:thrAt s=thrI s:=if_neg (by rw [hno]; exact Bool.false_ne_true)
  have e2:thrL v s=thrX (baysC v ((coursesL s).getD (thrI s).toNat default)) v.length s.every (s.every.tdiv 2):=if_neg (by rw [hno]; exact Bool.false_ne_true)
  have hev:=every_in hsp h1
  have hq:s.every.tdiv 2=s.every / 2:=Int.tdiv_eq_ediv_of_nonneg (by omega)
  have hti2:thrI s < ((coursesL s).length:Int):=by unfold thrI at *; omega
  refine gk_skip ?_
  refine gk_seq ?_
  refine gk_any 6 (fun _=>mixed) (by kernel_rfl) ?_
  refine ph_y (y_loadBA 2 tf94 rfl rfl (vs:=[_,_,_,_]) rfl rfl) ?_
  refine ph_y (y_move rfl) ?_
  refine ph_y (y_move rfl) ?_
  refine ph_y (y_indexE se38 rfl rfl (fun _ hw=>(has_row encCrs_ok (hw.has (p:=0) rfl))) (by omega) (by omega)) ?_
  refine ph_y (y_loadE (vs:=[_,_]) tf49 rfl (fun _ hw=>(has_row encCrs_ok (hw.has (p:=0) rfl))) (by omega) (by omega) rfl) ?_
  refine ph_yx (yx_call en63 rfl (fun w hw=>bays_c _ _ v ((coursesL s).getD (thrI s).toNat default) _ w (Rd.has (Has.rd hv) hw) hF (by omega))) ?_
  intro p28
  refine gk_sub (T':=[(2,_),(3,_),(4,_),(5,_),(7,_),(28,_)]) ⟨rfl,rfl,rfl,rfl,rfl,rfl,trivial⟩ ?_
  refine gk_y rfl rfl (y_assign rfl) ?_
  refine gk_nil (gk_sub (T':=[(2,_),(3,_),(4,_),(5,_),(7,_),(8,_)]) ⟨rfl,rfl,rfl,rfl,rfl,rfl,trivial⟩ ?_)
  refine gk_seq ?_
  refine gk_region ?_
  refine gk_y rfl rfl (y_assign rfl) ?_
  refine gk_nil (gk_sub (T':=[(2,_),(3,_),(4,_),(5,_),(7,_),(8,_),(9,_)]) ⟨rfl,rfl,rfl,rfl,rfl,rfl,rfl,trivial⟩ ?_)
  refine gk_seq ?_
  refine gk_seq ?_
  refine gk_region ?_
  refine gk_y rfl rfl (y_fieldAddr fo41_9 rfl) ?_
  refine gk_y rfl rfl (y_loadB1 2 tf3 rfl rfl rfl) ?_
  refine gk_y rfl rfl (y_quo rfl rfl (by omega)) ?_
  refine gk_yx rfl rfl (yx_alloc tf3 (zs:=[_]) rfl) fun b10=>?_
  refine gk_storeV 0 tf3 rfl rfl (vs:=[_]) rfl rfl rfl rfl rfl ?_
  refine gk_nil (gk_sub (T':=[(2,_),(3,_),(4,_),(5,_),(7,_),(8,_),(9,_),(10,_)]) ⟨rfl,rfl,rfl,rfl,rfl,rfl,rfl,rfl,trivial⟩ ?_)
  refine gk_conv (R':=Box b10 [.int .i64 (s.every.tdiv 2)] 3) 0 rfl (fun B w hA=>by rw [show IntKind.i64.wrap (Int.tdiv s.every 2)=s.every.tdiv 2 from wrap_in (by omega) (by omega)] at hA; exact hA) ?_
  refine gk_block ?_
  refine gk_newNil 3 Go.Stn.encI 1 ?_
  refine gk_loop (X:=Int×Nat×Option Addr×Nat×List Int) (fun⟨x,bx,rb,rc,N⟩=>[(2,.pointer (some ⟨b2,0,none⟩)),(3,.pointer (some ⟨b3,0,none⟩)),(4,.int .i64 0),(5,.slice none 0 0),(7,.int .i64 (thrI s)),(8,.slice p28.1 (baysC v ((coursesL s).getD (thrI s).toNat default)).length p28.2),(9,.slice rb N.length rc),(10,.pointer (some ⟨bx,0,none⟩))]) (fun⟨x,bx,rb,rc,N⟩=>[Row rb 1 rc 3 Go.Stn.encI N,Box bx [.int .i64 x] 3,Row p28.1 2 p28.2 69 encCrs (baysC v ((coursesL s).getD (thrI s).toNat default)),Row p12.1 2 p12.2 49 encCrs (coursesL s),Box b3 [.string s.name,.int .i64 s.base,.int .i64 s.batter,.int .i64 s.height,.int .i64 s.skin,.slice a s.heights.length cap,.int .i64 s.least,.int .i64 s.lap,.int .i64 s.run,.int .i64 s.every,.int .i64 s.at_,.int .i64 s.footing,.int .i64 s.spread,.int .u8 s.cope,.int .i64 s.tall,.int .i64 s.short,.int .i64 s.thick,.int .i64 s.low,.int .i64 s.high,.int .i64 s.rood] 41,Box b2 [.string v.name,.string v.sheet,.int .i64 v.length,.slice b v.opens.length bcap] 94]) (fun⟨x,bx,rb,rc,N⟩=>(0≤x∧(N.length:Int)≤x∧x < 200001∧N++thrX (baysC v ((coursesL s).getD (thrI s).toNat default)) v.length s.every x=thrL v s)) (fun⟨x,bx,rb,rc,N⟩=>(v.length - x).toNat) (s.every.tdiv 2,b10,none,0,[]) ⟨rfl,rfl,rfl,rfl,rfl,rfl,rfl,rfl,trivial⟩ rfl ?_ ?_
  ·exact⟨by omega,by simp; omega,by omega,by rw [e2]; rfl⟩
  ·rintro ⟨x,bx,rb,rc,N⟩ hI
   obtain⟨g0,g1,g2,g3⟩:=hI
   refine gk_seq ?_
   refine gk_seq ?_
   refine gk_region ?_
   refine gk_y rfl rfl (y_loadB1 1 tf3 rfl rfl rfl) ?_
   refine gk_y rfl rfl (y_fieldAddr fo94_2 rfl) ?_
   refine gk_y rfl rfl (y_loadB1 5 tf3 rfl rfl rfl) ?_
   refine gk_y rfl rfl (y_lss rfl rfl) ?_
   refine gk_nil (gk_sub (T':=[(2,_),(3,_),(4,_),(5,_),(7,_),(8,_),(9,_),(10,_),(35,_)]) ⟨rfl,rfl,rfl,rfl,rfl,rfl,rfl,rfl,rfl,trivial⟩ ?_)
   refine gk_cond rfl (fun hc35=>?_) (fun hc35=>?_)
   ·have hc35:=of_decide_eq_true hc35
    have hst:=thrX_step (bs:=(baysC v ((coursesL s).getD (thrI s).toNat default))) (e:=s.every) hev.1 hc35
    refine gk_skip ?_
    refine gk_seq ?_
    refine gk_block ?_
    refine gk_seq ?_
    refine gk_region ?_
    refine gk_y rfl rfl (y_move rfl) ?_
    refine gk_y rfl rfl (y_makeFunc («as»:=[]) (bs:=[_]) rfl rfl) ?_
    refine gk_y rfl rfl (y_call en99 rfl (fun w hw=>containsfuncB_c _ _ (baysC v ((coursesL s).getD (thrI s).toNat default)) (fun c:Crs=>decide (c.frm < x)&&decide (x < c.to)) 100 [] [.pointer (some ⟨bx,0,none⟩)] w (has_row encCrs_ok (hw.has (p:=2) rfl)) (by unfold Small baysC; omega) (fun w'=>Has w' (Box bx [.int .i64 x] 3)) (fun w' hx=>Has.ext (hw.has (p:=1) rfl) hx) en100 (fun z w' hm=>thr2_c z x bx w' hm))) ?_
    refine gk_nil (gk_sub (T':=[(2,_),(3,_),(4,_),(5,_),(7,_),(8,_),(9,_),(10,_),(42,_)]) ⟨rfl,rfl,rfl,rfl,rfl,rfl,rfl,rfl,rfl,trivial⟩ ?_)
    refine gk_cond rfl (fun hc42=>?_) (fun hc42=>?_)
    ·have hst2:=hst.trans (if_pos (show thrT (baysC v ((coursesL s).getD (thrI s).toNat default)) x=true from hc42))
     refine gk_region ?_
     refine gk_y rfl rfl (y_move rfl) ?_
     refine gk_y rfl rfl (y_loadB1 1 tf3 rfl rfl rfl) ?_
     refine gk_yx rfl rfl (yx_buildSlice rfl (bs35_1 _) Go.Stn.encI_ok rfl) fun b45=>?_
     refine gk_append (m:=[x]) 1 af35 Go.Stn.encI_ok rfl rfl rfl rfl (fun _ hw=>(has_row Go.Stn.encI_ok (hw.has (p:=0) rfl))) (by first | omega | (simp only [List.length_cons,List.length_nil]; omega)) (by first | (unfold maxLen; omega) | (simp only [List.length_cons,List.length_nil,maxLen]; omega)) fun a46 c46=>?_
     refine gk_y rfl rfl (y_assign rfl) ?_
     refine gk_nil (gk_sub (T':=[(2,_),(3,_),(4,_),(5,_),(7,_),(8,_),(9,_),(10,_)]) ⟨rfl,rfl,rfl,rfl,rfl,rfl,rfl,rfl,trivial⟩ ?_)
     refine gk_seq ?_
     refine gk_seq ?_
     refine gk_region ?_
     refine gk_y rfl rfl (y_loadB1 2 tf3 rfl rfl rfl) ?_
     refine gk_nil (gk_sub (T':=[(2,_),(3,_),(4,_),(5,_),(7,_),(8,_),(9,_),(10,_),(47,_)]) ⟨rfl,rfl,rfl,rfl,rfl,rfl,rfl,rfl,rfl,trivial⟩ ?_)
     refine gk_region ?_
     refine gk_yx rfl rfl (yx_alloc tf3 (zs:=[_]) rfl) fun b10=>?_
     refine gk_storeV 0 tf3 rfl rfl (vs:=[_]) rfl rfl rfl rfl rfl ?_
     refine gk_nil (gk_sub (T':=[(2,_),(3,_),(4,_),(5,_),(7,_),(8,_),(9,_),(10,_)]) ⟨rfl,rfl,rfl,rfl,rfl,rfl,rfl,rfl,trivial⟩ ?_)
     refine gk_region ?_
     refine gk_y rfl rfl (y_loadB1 0 tf3 rfl rfl rfl) ?_
     refine gk_y rfl rfl (y_fieldAddr fo41_9 rfl) ?_
     refine gk_y rfl rfl (y_loadB1 6 tf3 rfl rfl rfl) ?_
     refine gk_y rfl rfl (y_addI rfl rfl (by omega) (by omega)) ?_
     refine gk_storeV 0 tf3 rfl rfl (vs:=[_]) rfl rfl rfl rfl rfl ?_
     refine gk_nil (gk_sub (T':=[(2,_),(3,_),(4,_),(5,_),(7,_),(8,_),(9,_),(10,_)]) ⟨rfl,rfl,rfl,rfl,rfl,rfl,rfl,rfl,trivial⟩ ?_)
     refine gk_dropAt 3 rfl ?_
     refine gk_front 2 rfl ?_
     refine gk_dropAt 2 rfl ?_
     exact gk_next (x+s.every,b10,_,_,_) ⟨rfl,rfl,rfl,rfl,rfl,rfl,rfl,rfl,trivial⟩ rfl ⟨by omega,by first | omega | (rw [List.length_append]; simp only [List.length_cons,List.length_nil]; omega),by omega,by rw [←g3,hst2] <;> simp⟩ (by simp only []; omega)
    ·have hst2:=hst.trans (if_neg (by rw [show thrT (baysC v ((coursesL s).getD (thrI s).toNat default)) x=false from hc42]; exact Bool.false_ne_true))
     refine gk_skip ?_
     refine gk_seq ?_
     refine gk_seq ?_
     refine gk_region ?_
     refine gk_y rfl rfl (y_loadB1 1 tf3 rfl rfl rfl) ?_
     refine gk_nil (gk_sub (T':=[(2,_),(3,_),(4,_),(5,_),(7,_),(8,_),(9,_),(10,_),(47,_)]) ⟨rfl,rfl,rfl,rfl,rfl,rfl,rfl,rfl,rfl,trivial⟩ ?_)
     refine gk_region ?_
     refine gk_yx rfl rfl (yx_alloc tf3 (zs:=[_]) rfl) fun b10=>?_
     refine gk_storeV 0 tf3 rfl rfl (vs:=[_]) rfl rfl rfl rfl rfl ?_
     refine gk_nil (gk_sub (T':=[(2,_),(3,_),(4,_),(5,_),(7,_),(8,_),(9,_),(10,_)]) ⟨rfl,rfl,rfl,rfl,rfl,rfl,rfl,rfl,trivial⟩ ?_)
     refine gk_region ?_
     refine gk_y rfl rfl (y_loadB1 0 tf3 rfl rfl rfl) ?_
     refine gk_y rfl rfl (y_fieldAddr fo41_9 rfl) ?_
     refine gk_y rfl rfl (y_loadB1 5 tf3 rfl rfl rfl) ?_
     refine gk_y rfl rfl (y_addI rfl rfl (by omega) (by omega)) ?_
     refine gk_storeV 0 tf3 rfl rfl (vs:=[_]) rfl rfl rfl rfl rfl ?_
     refine gk_nil (gk_sub (T':=[(2,_),(3,_),(4,_),(5,_),(7,_),(8,_),(9,_),(10,_)]) ⟨rfl,rfl,rfl,rfl,rfl,rfl,rfl,rfl,trivial⟩ ?_)
     refine gk_dropAt 2 rfl ?_
     refine gk_front 1 rfl ?_
     exact gk_next (x+s.every,b10,_,_,_) ⟨rfl,rfl,rfl,rfl,rfl,rfl,rfl,rfl,trivial⟩ rfl ⟨by omega,by first | omega | (rw [List.length_append]; simp only [List.length_cons,List.length_nil]; omega),by omega,by rw [←g3,hst2] <;> simp⟩ (by simp only []; omega)
   ·have hc35:=of_decide_eq_false hc35
    have hend:=thrX_end (bs:=(baysC v ((coursesL s).getD (thrI s).toNat default))) (e:=s.every) hc35
    refine gk_exit rfl ?_
    refine gk_seq ?_
    refine gk_region ?_
    refine gk_y rfl rfl (y_move rfl) ?_
    refine gk_y rfl rfl (y_move rfl) ?_
    refine gk_y rfl rfl (y_assign rfl) ?_
    refine gk_y rfl rfl (y_assign rfl) ?_
    refine gk_nil (gk_sub (T':=[(4,_),(5,_)]) ⟨rfl,rfl,trivial⟩ ?_)
    refine gk_ret ?_
    refine gk_gives (rb,rc) 0 (rv_two rfl (r1_tmp rfl) (r1_tmp rfl)) ?_ (by rw [←g3,hend,List.append_nil]; rfl)
    rw [e1,←g3,hend,List.append_nil] <;> rfl
end Go.Proofs.YtdcfcfhmkfkgmaaGreatDoor
namespace Go.Pln
open Go Go.K Go.RowKit Go.Stn
theorem copesB_drop {s:Sht} {bs:List Crs} {i:Int} (h0:0≤i) (h:i < (bs.length:Int)):copesB s (bs.drop i.toNat)=copB s.thick (bs.getD i.toNat default).to (bs.getD i.toNat default).frm s.tall (otherH s)++copesB s (bs.drop (i+1).toNat):=by
 rw [show(i+1).toNat=i.toNat+1 from by omega,List.drop_eq_getElem_cons (by omega),copesB_cons,List.getD_eq_getElem?_getD,List.getElem?_eq_getElem (by omega)]; rfl
theorem copesB_done {s:Sht} {bs:List Crs} {i:Int} (h:¬ i < (bs.length:Int)):copesB s (bs.drop i.toNat)=[]:=by
 rw [List.drop_of_length_le (by omega)]; rfl
theorem copes_num {v:Wll} {s:Sht} (h:WallF v s.height):((copesB s (baysT v s)).length:Int)≤100000:=by
 have h1:=h.len
 have:=copesB_len s (by omega) (baysP_runs h (inTop s.height))
 show((copesB s (baysP (inTop s.height) v)).length:Int)≤100000
 omega
theorem copesL_num {v:Wll} {s:Sht} (h:WallF v s.height):((copesL v s).length:Int)≤100000:=by
 unfold copesL
 split
 ·simp
 ·exact copes_num h
theorem append_len {α:Type} {a b t:List α} (h:a++b=t):a.length+b.length=t.length:=by rw [←h,List.length_append]
end Go.Pln
namespace Go.Proofs.YtdcfcfhmkfkgmaaGreatDoor
open Go.K Go.Stn Go.Pln Go.RowKit
theorem af73:AF Tryz.prog 73 87 3 24 [.int IntKind.i64 0,.int IntKind.i64 0,.int IntKind.i64 0]:=⟨Tryz.underlying73,by kernel_rfl,rfl⟩
theorem en101:En Tryz.prog 101:=en_of Tryz.func101 (by kernel_rfl) (by kernel_rfl)
theorem bd87_0i_1i_2i (x0:Int) (x1:Int) (x2:Int) (w:World):(Instr.build 87 #[(0,.int .i64 x0),(1,.int .i64 x1),(2,.int .i64 x2)]).run Tryz.prog w=.ok (.agg #[.int .i64 x0,.int .i64 x1,.int .i64 x2]) w:=by kernel_rfl
theorem bs73_1 (x0_0:Int) (x0_1:Int) (x0_2:Int) (w:World):(Instr.buildSlice 73 1 #[(0,.agg #[.int .i64 x0_0,.int .i64 x0_1,.int .i64 x0_2])]).run Tryz.prog w=.ok (.slice (some ⟨w.heap.size,0,none⟩) 1 1) (w.alloc (.cells (([⟨x0_0,x0_1,x0_2⟩]:List (Cpe)).flatMap encCpe).toArray 87)):=by kernel_rfl
set_option maxRecDepth 100000 in
set_option maxHeartbeats 16000000 in
theorem copes_c (b:Option Addr) (bcap:Nat) (v:Wll) (a:Option Addr) (cap:Nat) (s:Sht) (w:World) (hv:Has w (Elems b 5 encOpn v.opens)) (hF:WallF v s.height) (hsp:sheetP s=true) :
  Calls Tryz.prog 66 #[.agg #[.string v.name,.string v.sheet,.int .i64 v.length,.slice b v.opens.length bcap],.agg #[.string s.name,.int .i64 s.base,.int .i64 s.batter,.int .i64 s.height,.int .i64 s.skin,.slice a s.heights.length cap,.int .i64 s.least,.int .i64 s.lap,.int .i64 s.run,.int .i64 s.every,.int .i64 s.at_,.int .i64 s.footing,.int .i64 s.spread,.int .u8 s.cope,.int .i64 s.tall,.int .i64 s.short,.int .i64 s.thick,.int .i64 s.low,.int .i64 s.high,.int .i64 s.rood]] w (Gives (fun z:Option Addr×Nat=>.slice z.1 (copesL v s).length z.2) (fun z=>Row z.1 3 z.2 87 encCpe (copesL v s)) w):=by
 have hnm:=sheetP_nums hsp
 have htop:=hnm.height
 have hlen:=hF.len
 have hcn:=copes_num hF
 have hbn:((baysT v s).length:Int)≤100000:=baysP_num hF (inTop s.height)
 refine calls_of_gk (vs:=[_,_]) Tryz.func66 rfl rfl (Nat.le_of_ble_eq_true rfl) ?_
 refine gk_seq ?_
 refine gk_region ?_
 refine gk_yx rfl rfl (yx_box (vs:=[_,_,_,_]) rfl rfl) fun b2=>?_
 refine gk_yx rfl rfl (yx_box (vs:=[_,_,_,_,_,_,_,_,_,_,_,_,_,_,_,_,_,_,_,_]) rfl rfl) fun b3=>?_
 refine gk_y rfl rfl (y_assign rfl) ?_
 refine gk_nil (gk_sub (T':=[(2,_),(3,_),(4,_)]) ⟨rfl,rfl,rfl,trivial⟩ ?_)
 refine gk_seq ?_
 refine gk_seq ?_
 refine gk_region ?_
 refine gk_y rfl rfl (y_fieldAddr fo41_13 rfl) ?_
 refine gk_y rfl rfl (y_loadB1 0 tf5 rfl rfl rfl) ?_
 refine gk_y rfl rfl (y_eql rfl rfl) ?_
 refine gk_nil (gk_sub (T':=[(2,_),(3,_),(4,_),(13,_)]) ⟨rfl,rfl,rfl,rfl,trivial⟩ ?_)
 refine gk_cond rfl (fun hc13=>?_) (fun hc13=>?_)
 ·have hno:s.cope=0:=by simpa using hc13
  have e1:copesL v s=[]:=if_pos hno
  refine gk_newNil 87 encCpe 3 ?_
  refine gk_seq ?_
  refine gk_region ?_
  refine gk_y rfl rfl (y_assign rfl) ?_
  refine gk_nil (gk_sub (T':=[(2,_),(3,_),(4,_)]) ⟨rfl,rfl,rfl,trivial⟩ ?_)
  refine gk_ret ?_
  refine gk_gives (none,0) 0 (rv_one rfl (r1_tmp rfl)) ?_ (by rw [e1]; rfl)
  rw [e1] <;> rfl
 ·have hno:¬ s.cope=0:=by simpa using hc13
  have e1:copesL v s=(copesB s (baysT v s)):=if_neg hno
  obtain⟨hth,htl,hoh⟩:=cope_in hsp hno
  refine gk_skip ?_
  refine gk_seq ?_
  refine gk_region ?_
  refine gk_y rfl rfl (y_assign rfl) ?_
  refine gk_nil (gk_sub (T':=[(2,_),(3,_),(4,_),(5,_)]) ⟨rfl,rfl,rfl,rfl,trivial⟩ ?_)
  refine gk_seq ?_
  refine gk_seq ?_
  refine gk_region ?_
  refine gk_y rfl rfl (y_loadBA 1 tf94 rfl rfl (vs:=[_,_,_,_]) rfl rfl) ?_
  refine gk_y rfl rfl (y_makeFunc («as»:=[]) (bs:=[_]) rfl rfl) ?_
  refine gk_yx rfl rfl (yx_call en95 rfl (fun w hw=>without_c _ _ v s.height (inTopW s.height) 101 [.pointer (some ⟨b3,0,none⟩)] en101 (Box b3 [.string s.name,.int .i64 s.base,.int .i64 s.batter,.int .i64 s.height,.int .i64 s.skin,.slice a s.heights.length cap,.int .i64 s.least,.int .i64 s.lap,.int .i64 s.run,.int .i64 s.every,.int .i64 s.at_,.int .i64 s.footing,.int .i64 s.spread,.int .u8 s.cope,.int .i64 s.tall,.int .i64 s.short,.int .i64 s.thick,.int .i64 s.low,.int .i64 s.high,.int .i64 s.rood] 41) w (Rd.has (Has.rd hv) hw) hF (hw.has (p:=0) rfl) (fun o w' hm=>copes1_c o a cap s b3 w' hm))) fun p16=>?_
  refine gk_y rfl rfl (y_lenS (Tryz.underlying59) rfl) ?_
  refine gk_y rfl rfl (y_move rfl) ?_
  refine gk_nil (gk_sub (T':=[(3,_),(4,_),(5,_),(16,_),(17,_),(18,_)]) ⟨rfl,rfl,rfl,rfl,rfl,rfl,trivial⟩ ?_)
  refine gk_conv (R':=Row p16.1 2 p16.2 69 encCrs (baysT v s)) 0 rfl (fun B w hA=>by rw [bays_top hF (by omega)] at hA; exact hA) ?_
  refine gk_sub (T':=[(3,_),(4,_),(5,_),(16,.slice p16.1 (baysT v s).length p16.2),(17,.int .i64 ((baysT v s).length:Int)),(18,_)]) ⟨rfl,rfl,rfl,(by rw [←bays_top hF (by omega)]; rfl),(by rw [←bays_top hF (by omega)]; rfl),rfl,trivial⟩ ?_
  refine gk_block ?_
  refine gk_newNil 87 encCpe 3 ?_
  refine gk_loop (X:=Int×Option Addr×Nat×List Cpe) (fun⟨i,ra,rc,M⟩=>[(3,.pointer (some ⟨b3,0,none⟩)),(4,.slice none 0 0),(5,.slice ra M.length rc),(16,.slice p16.1 (baysT v s).length p16.2),(17,.int .i64 ((baysT v s).length:Int)),(18,.int .i64 i)]) (fun⟨i,ra,rc,M⟩=>[Row ra 3 rc 87 encCpe M,Row p16.1 2 p16.2 69 encCrs (baysT v s),Box b3 [.string s.name,.int .i64 s.base,.int .i64 s.batter,.int .i64 s.height,.int .i64 s.skin,.slice a s.heights.length cap,.int .i64 s.least,.int .i64 s.lap,.int .i64 s.run,.int .i64 s.every,.int .i64 s.at_,.int .i64 s.footing,.int .i64 s.spread,.int .u8 s.cope,.int .i64 s.tall,.int .i64 s.short,.int .i64 s.thick,.int .i64 s.low,.int .i64 s.high,.int .i64 s.rood] 41,Box b2 [.string v.name,.string v.sheet,.int .i64 v.length,.slice b v.opens.length bcap] 94]) (fun⟨i,ra,rc,M⟩=>(0≤i∧i≤(baysT v s).length∧M++copesB s ((baysT v s).drop i.toNat)=(copesB s (baysT v s)))) (fun⟨i,ra,rc,M⟩=>((baysT v s).length - i).toNat) (0,none,0,[]) ⟨rfl,rfl,rfl,rfl,rfl,rfl,trivial⟩ rfl ?_ ?_
  ·exact⟨by omega,by omega,rfl⟩
  ·rintro ⟨i,ra,rc,M⟩ hI
   obtain⟨g0,g1,g2⟩:=hI
   refine gk_seq ?_
   refine gk_region ?_
   refine gk_y rfl rfl (y_lss rfl rfl) ?_
   refine gk_nil (gk_sub (T':=[(3,_),(4,_),(5,_),(16,_),(17,_),(18,_),(19,_)]) ⟨rfl,rfl,rfl,rfl,rfl,rfl,rfl,trivial⟩ ?_)
   refine gk_seq ?_
   refine gk_cond rfl (fun hc19=>?_) (fun hc19=>?_)
   ·have hc19:=of_decide_eq_true hc19
    obtain⟨q1,q2,q3⟩:0≤((baysT v s).getD i.toNat default).frm∧((baysT v s).getD i.toNat default).frm < ((baysT v s).getD i.toNat default).to∧((baysT v s).getD i.toNat default).to≤v.length:=bay_in hF g0 hc19
    have hdr:=copesB_drop (s:=s) g0 hc19
    refine gk_skip ?_
    refine gk_seq ?_
    refine gk_block ?_
    refine gk_seq ?_
    refine gk_region ?_
    refine gk_y rfl rfl (y_indexE se59 rfl rfl (fun _ hw=>(has_row encCrs_ok (hw.has (p:=1) rfl))) (by omega) (by omega)) ?_
    refine gk_y rfl rfl (y_loadE (vs:=[_,_]) tf69 rfl (fun _ hw=>(has_row encCrs_ok (hw.has (p:=1) rfl))) (by omega) (by omega) rfl) ?_
    refine gk_yx rfl rfl (yx_alloc tf69 (zs:=[_,_]) rfl) fun b7=>?_
    refine gk_storeV 0 tf69 rfl rfl (vs:=[_,_]) rfl rfl rfl rfl rfl ?_
    refine gk_nil (gk_sub (T':=[(3,_),(4,_),(5,_),(7,_),(16,_),(17,_),(18,_)]) ⟨rfl,rfl,rfl,rfl,rfl,rfl,rfl,trivial⟩ ?_)
    refine gk_seq ?_
    refine gk_any 6 (fun _=>mixed) (by kernel_rfl) ?_
    refine ph_y (y_fieldAddr fo41_14 rfl) ?_
    refine ph_y (y_loadB1 3 tf3 rfl rfl rfl) ?_
    refine ph_y (y_fieldAddr fo41_14 rfl) ?_
    refine ph_y (y_loadB1 3 tf3 rfl rfl rfl) ?_
    refine ph_y (y_assign rfl) ?_
    refine ph_y (y_assign rfl) ?_
    refine gk_nil (gk_sub (T':=[(3,_),(4,_),(5,_),(7,_),(8,_),(9,_),(16,_),(17,_),(18,_)]) ⟨rfl,rfl,rfl,rfl,rfl,rfl,rfl,rfl,rfl,trivial⟩ ?_)
    refine gk_join (X:=Unit) (fun _=>[(3,.pointer (some ⟨b3,0,none⟩)),(4,.slice none 0 0),(5,.slice ra M.length rc),(7,.pointer (some ⟨b7,0,none⟩)),(8,.int .i64 s.tall),(9,.int .i64 (otherH s)),(16,.slice p16.1 (baysT v s).length p16.2),(17,.int .i64 ((baysT v s).length:Int)),(18,.int .i64 i)]) (fun _=>[Box b7 [.int .i64 ((baysT v s).getD (i).toNat default).frm,.int .i64 ((baysT v s).getD (i).toNat default).to] 69,Row ra 3 rc 87 encCpe M,Row p16.1 2 p16.2 69 encCrs (baysT v s),Box b3 [.string s.name,.int .i64 s.base,.int .i64 s.batter,.int .i64 s.height,.int .i64 s.skin,.slice a s.heights.length cap,.int .i64 s.least,.int .i64 s.lap,.int .i64 s.run,.int .i64 s.every,.int .i64 s.at_,.int .i64 s.footing,.int .i64 s.spread,.int .u8 s.cope,.int .i64 s.tall,.int .i64 s.short,.int .i64 s.thick,.int .i64 s.low,.int .i64 s.high,.int .i64 s.rood] 41,Box b2 [.string v.name,.string v.sheet,.int .i64 v.length,.slice b v.opens.length bcap] 94]) (fun _=>True) ?_ ?_
    ·
     refine gk_seq ?_
     refine gk_region ?_
     refine gk_y rfl rfl (y_fieldAddr fo41_13 rfl) ?_
     refine gk_y rfl rfl (y_loadB1 3 tf5 rfl rfl rfl) ?_
     refine gk_y rfl rfl (y_eql rfl rfl) ?_
     refine gk_nil (gk_sub (T':=[(3,_),(4,_),(5,_),(7,_),(8,_),(9,_),(16,_),(17,_),(18,_),(28,_)]) ⟨rfl,rfl,rfl,rfl,rfl,rfl,rfl,rfl,rfl,rfl,trivial⟩ ?_)
     refine gk_cond rfl (fun hc28=>?_) (fun hc28=>?_)
     ·have ho3:otherH s=s.short:=if_pos (by simpa using hc28)
      refine gk_region ?_
      refine gk_y rfl rfl (y_fieldAddr fo41_15 rfl) ?_
      refine gk_y rfl rfl (y_loadB1 3 tf3 rfl rfl rfl) ?_
      refine gk_y rfl rfl (y_assign rfl) ?_
      refine gk_nil (gk_sub (T':=[(3,_),(4,_),(5,_),(7,_),(8,_),(9,_),(16,_),(17,_),(18,_)]) ⟨rfl,rfl,rfl,rfl,rfl,rfl,rfl,rfl,rfl,trivial⟩ ?_)
      refine gk_sub (T':=[(3,_),(4,_),(5,_),(7,_),(8,_),(9,.int .i64 (otherH s)),(16,_),(17,_),(18,_)]) ⟨rfl,rfl,rfl,rfl,rfl,(by rw [ho3]; rfl),rfl,rfl,rfl,trivial⟩ ?_
      exact gk_joined () ⟨rfl,rfl,rfl,rfl,rfl,(by(first | rfl | (rw [ho3]; rfl))),rfl,rfl,rfl,trivial⟩ rfl trivial
     ·have ho3:otherH s=s.tall:=if_neg (by simpa using hc28)
      refine gk_skip ?_
      exact gk_joined () ⟨rfl,rfl,rfl,rfl,rfl,(by(first | rfl | (rw [ho3]; rfl))),rfl,rfl,rfl,trivial⟩ rfl trivial
    ·rintro _ hJ
     refine gk_seq ?_
     refine gk_region ?_
     refine gk_y rfl rfl (y_fieldAddr fo69_0 rfl) ?_
     refine gk_y rfl rfl (y_loadB1 0 tf3 rfl rfl rfl) ?_
     refine gk_y rfl rfl (y_assign rfl) ?_
     refine gk_nil (gk_sub (T':=[(3,_),(4,_),(5,_),(7,_),(8,_),(9,_),(10,_),(16,_),(17,_),(18,_)]) ⟨rfl,rfl,rfl,rfl,rfl,rfl,rfl,rfl,rfl,rfl,trivial⟩ ?_)
     refine gk_block ?_
     refine gk_loop (X:=Int×Int×Int×Option Addr×Nat×List Cpe) (fun⟨x,hh,oo,ra2,rc2,M2⟩=>[(3,.pointer (some ⟨b3,0,none⟩)),(4,.slice none 0 0),(5,.slice ra2 M2.length rc2),(7,.pointer (some ⟨b7,0,none⟩)),(8,.int .i64 hh),(9,.int .i64 oo),(10,.int .i64 x),(16,.slice p16.1 (baysT v s).length p16.2),(17,.int .i64 ((baysT v s).length:Int)),(18,.int .i64 i)]) (fun⟨x,hh,oo,ra2,rc2,M2⟩=>[Box b7 [.int .i64 ((baysT v s).getD (i).toNat default).frm,.int .i64 ((baysT v s).getD (i).toNat default).to] 69,Row ra2 3 rc2 87 encCpe M2,Row p16.1 2 p16.2 69 encCrs (baysT v s),Box b3 [.string s.name,.int .i64 s.base,.int .i64 s.batter,.int .i64 s.height,.int .i64 s.skin,.slice a s.heights.length cap,.int .i64 s.least,.int .i64 s.lap,.int .i64 s.run,.int .i64 s.every,.int .i64 s.at_,.int .i64 s.footing,.int .i64 s.spread,.int .u8 s.cope,.int .i64 s.tall,.int .i64 s.short,.int .i64 s.thick,.int .i64 s.low,.int .i64 s.high,.int .i64 s.rood] 41,Box b2 [.string v.name,.string v.sheet,.int .i64 v.length,.slice b v.opens.length bcap] 94]) (fun⟨x,hh,oo,ra2,rc2,M2⟩=>(0≤x∧x≤200000∧M2++(copB s.thick ((baysT v s).getD i.toNat default).to x hh oo++copesB s ((baysT v s).drop (i+1).toNat))=(copesB s (baysT v s)))) (fun⟨x,hh,oo,ra2,rc2,M2⟩=>(((baysT v s).getD i.toNat default).to - x).toNat) (((baysT v s).getD i.toNat default).frm,s.tall,otherH s,ra,rc,M) ⟨rfl,rfl,rfl,rfl,rfl,rfl,rfl,rfl,rfl,rfl,trivial⟩ rfl ?_ ?_
     ·exact⟨by omega,by omega,by rw [←hdr]; exact g2⟩
     ·rintro ⟨x,hh,oo,ra2,rc2,M2⟩ hI
      obtain⟨k0,k1,k3⟩:=hI
      refine gk_seq ?_
      refine gk_seq ?_
      refine gk_region ?_
      refine gk_y rfl rfl (y_move rfl) ?_
      refine gk_y rfl rfl (y_fieldAddr fo69_1 rfl) ?_
      refine gk_y rfl rfl (y_loadB1 0 tf3 rfl rfl rfl) ?_
      refine gk_y rfl rfl (y_lss rfl rfl) ?_
      refine gk_nil (gk_sub (T':=[(3,_),(4,_),(5,_),(7,_),(8,_),(9,_),(10,_),(16,_),(17,_),(18,_),(36,_)]) ⟨rfl,rfl,rfl,rfl,rfl,rfl,rfl,rfl,rfl,rfl,rfl,trivial⟩ ?_)
      refine gk_cond rfl (fun hc36=>?_) (fun hc36=>?_)
      ·have hc36:=of_decide_eq_true hc36
       have hst:=copB_step (t:=s.thick) (to:=((baysT v s).getD i.toNat default).to) (x:=x) (h:=hh) (o:=oo) (by omega) hc36
       have hal:=append_len k3
       refine gk_skip ?_
       refine gk_seq ?_
       refine gk_block ?_
       refine gk_seq ?_
       refine gk_region ?_
       refine gk_y rfl rfl (y_move rfl) ?_
       refine gk_y rfl rfl (y_move rfl) ?_
       refine gk_y rfl rfl (y_fieldAddr fo41_16 rfl) ?_
       refine gk_y rfl rfl (y_loadB1 3 tf3 rfl rfl rfl) ?_
       refine gk_y rfl rfl (y_fieldAddr fo69_1 rfl) ?_
       refine gk_y rfl rfl (y_loadB1 0 tf3 rfl rfl rfl) ?_
       refine gk_y rfl rfl (y_move rfl) ?_
       refine gk_y rfl rfl (y_subI rfl rfl (by omega) (by omega)) ?_
       refine gk_y rfl rfl (y_min rfl rfl) ?_
       refine gk_y rfl rfl (y_move rfl) ?_
       refine gk_y rfl rfl (y_buildL rfl (bd87_0i_1i_2i _ _ _)) ?_
       refine gk_yx rfl rfl (yx_buildSlice rfl (bs73_1 _ _ _) encCpe_ok rfl) fun b52=>?_
       refine gk_append (m:=[(⟨x,(min s.thick (((baysT v s).getD (i).toNat default).to - x)),hh⟩:Cpe)]) 2 af73 encCpe_ok rfl rfl rfl rfl (fun _ hw=>(has_row encCpe_ok (hw.has (p:=0) rfl))) (by first | omega | (simp only [List.length_cons,List.length_nil]; omega)) (by first | (unfold maxLen; omega) | (simp only [List.length_cons,List.length_nil,maxLen]; omega)) fun a53 c53=>?_
       refine gk_y rfl rfl (y_assign rfl) ?_
       refine gk_nil (gk_sub (T':=[(3,_),(4,_),(5,_),(7,_),(8,_),(9,_),(10,_),(16,_),(17,_),(18,_)]) ⟨rfl,rfl,rfl,rfl,rfl,rfl,rfl,rfl,rfl,rfl,trivial⟩ ?_)
       refine gk_region ?_
       refine gk_y rfl rfl (y_move rfl) ?_
       refine gk_y rfl rfl (y_move rfl) ?_
       refine gk_y rfl rfl (y_assign rfl) ?_
       refine gk_y rfl rfl (y_assign rfl) ?_
       refine gk_nil (gk_sub (T':=[(3,_),(4,_),(5,_),(7,_),(8,_),(9,_),(10,_),(16,_),(17,_),(18,_)]) ⟨rfl,rfl,rfl,rfl,rfl,rfl,rfl,rfl,rfl,rfl,trivial⟩ ?_)
       refine gk_region ?_
       refine gk_y rfl rfl (y_move rfl) ?_
       refine gk_y rfl rfl (y_fieldAddr fo41_16 rfl) ?_
       refine gk_y rfl rfl (y_loadB1 4 tf3 rfl rfl rfl) ?_
       refine gk_y rfl rfl (y_addI rfl rfl (by omega) (by omega)) ?_
       refine gk_y rfl rfl (y_assign rfl) ?_
       refine gk_nil (gk_sub (T':=[(3,_),(4,_),(5,_),(7,_),(8,_),(9,_),(10,_),(16,_),(17,_),(18,_)]) ⟨rfl,rfl,rfl,rfl,rfl,rfl,rfl,rfl,rfl,rfl,trivial⟩ ?_)
       refine gk_dropAt 0 rfl ?_
       exact gk_next (x+s.thick,oo,hh,_,_,_) ⟨rfl,rfl,rfl,rfl,rfl,rfl,rfl,rfl,rfl,rfl,trivial⟩ rfl ⟨by omega,by omega,by rw [←k3,hst] <;> simp⟩ (by simp only []; omega)
      ·have hc36:=of_decide_eq_false hc36
       have hen2:=copB_end (t:=s.thick) (h:=hh) (o:=oo) hc36
       refine gk_exit rfl ?_
       refine gk_region ?_
       refine gk_y rfl rfl (y_addI rfl rfl (by omega) (by omega)) ?_
       refine gk_y rfl rfl (y_move rfl) ?_
       refine gk_nil (gk_sub (T':=[(3,_),(4,_),(5,_),(16,_),(17,_),(18,_)]) ⟨rfl,rfl,rfl,rfl,rfl,rfl,trivial⟩ ?_)
       refine gk_dropAt 0 rfl ?_
       exact gk_next (i+1,_,_,_) ⟨rfl,rfl,rfl,rfl,rfl,rfl,trivial⟩ rfl ⟨by omega,by omega,by rw [←k3,hen2]; rfl⟩ (by simp only []; omega)
   ·have hc19:=of_decide_eq_false hc19
    have hdn:=copesB_done (s:=s) hc19
    refine gk_exit rfl ?_
    refine gk_seq ?_
    refine gk_region ?_
    refine gk_y rfl rfl (y_move rfl) ?_
    refine gk_y rfl rfl (y_assign rfl) ?_
    refine gk_nil (gk_sub (T':=[(4,_)]) ⟨rfl,trivial⟩ ?_)
    refine gk_ret ?_
    refine gk_gives (ra,rc) 0 (rv_one rfl (r1_tmp rfl)) ?_ (by rw [e1,←g2,hdn,List.append_nil]; rfl)
    rw [e1,←g2,hdn,List.append_nil] <;> rfl
end Go.Proofs.YtdcfcfhmkfkgmaaGreatDoor
namespace Go.Pln
open Go Go.K Go.RowKit Go.Stn
def Chn (hi:Int):Int→List Crs→Prop
 | lo,[]=>lo=hi
 | lo,c :: r=>c.frm=lo∧lo < c.to∧Chn hi c.to r
theorem chn_snoc {hi mid:Int} (hm:mid < hi):∀ {lo:Int} {l:List Crs},Chn mid lo l→Chn hi lo (l++[⟨mid,hi⟩])
 | _,[],h=>by
  subst h
  exact⟨rfl,hm,rfl⟩
 | _,c :: r,⟨h1,h2,h3⟩=>⟨h1,h2,chn_snoc hm h3⟩
theorem chn_le {hi:Int}:∀ {lo:Int} {l:List Crs},Chn hi lo l→lo≤hi
 | _,[],h=>Int.le_of_eq h
 | _,c :: r,⟨_,h2,h3⟩=>by have:=chn_le h3; omega
theorem chn_mem {hi:Int}:∀ {lo:Int} {l:List Crs},Chn hi lo l→∀ c∈l,lo≤c.frm∧c.frm < c.to∧c.to≤hi
 | _,[],_,_,h=>by cases h
 | _,c :: r,⟨h1,h2,h3⟩,d,hd=>by
  rcases List.mem_cons.1 hd with rfl | hd
  ·have:=chn_le h3; exact⟨by omega,by omega,this⟩
  ·have:=chn_mem h3 d hd
   omega
theorem chn_crsN {s:Sht} (hn:Nums s):∀ n:Nat,Chn (zAt s n) 0 (crsN s n)
 | 0=>rfl
 | n+1=>by
  rw [crsN_succ]
  refine chn_snoc ?_ (chn_crsN hn n)
  have:=(each_of hn n).1
  rw [zAt]; omega
theorem cnt_spec {s:Sht} (hn:Nums s):under s (cnt s)=false∧∀ j,j < cnt s→under s j=true:=by
 have hex:∃ n,under s n=false:=⟨(s.height+1).toNat,by
  have h1:=zAt_ge (s:=s) (fun i=>(each_of hn i).1) (s.height+1).toNat
  have h2:=(each_of hn (s.height+1).toNat).1
  have h3:=hn.height
  unfold under
  rw [decide_eq_false_iff_not]; omega⟩
 have least:∀ m,(∃ n,n < m∧under s n=false)→∃ n,under s n=false∧∀ j,j < n→under s j=true:=by
  intro m
  induction m with
  | zero=>rintro ⟨n,h,_⟩; omega
  | succ m ih=>
   rintro ⟨n,h1,h2⟩
   by_cases h:∃ n,n < m∧under s n=false
   ·exact ih h
   ·refine⟨n,h2,fun j hj=>?_⟩
    cases e:under s j with
    | true=>rfl
    | false=>exact absurd ⟨j,by omega,e⟩ h
 obtain⟨n,hn1⟩:=hex
 obtain⟨m,h1,h2⟩:=least (n+1) ⟨n,Nat.lt_succ_self _,hn1⟩
 rw [cnt_of (fun i=>(each_of hn i).1) h1 h2]
 exact⟨h1,h2⟩
theorem courses_chn {s:Sht} (hn:Nums s):Chn s.height 0 (coursesL s):=by
 obtain⟨h1,h2⟩:=cnt_spec hn
 have hh:=hn.height
 have hz:=zAt_le (s:=s) (by omega) h2
 have hc:=chn_crsN hn (cnt s)
 by_cases e1:s.height - zAt s (cnt s)=0
 ·rw [courses_zero rfl e1,show s.height=zAt s (cnt s) from by omega]; exact hc
 ·by_cases e2:s.least≤s.height - zAt s (cnt s)∨cnt s=0
  ·rw [courses_rest rfl e1 e2]
   exact chn_snoc (by omega) hc
  ·rw [courses_last rfl e1 e2]
   obtain⟨m,hm⟩:∃ m,cnt s=m+1:=⟨cnt s - 1,by omega⟩
   rw [hm,Nat.add_sub_cancel,crsN_succ]
   have e3:((crsN s m++[(⟨zAt s m,zAt s (m+1)⟩:Crs)]).getD m default).frm=zAt s m:=by
    rw [List.getD_eq_getElem?_getD,List.getElem?_append_right (by rw [crsN_len]; exact Nat.le_refl _),crsN_len,Nat.sub_self]; rfl
   have e4:(crsN s m++[(⟨zAt s m,zAt s (m+1)⟩:Crs)]).set m ⟨zAt s m,s.height⟩=crsN s m++[⟨zAt s m,s.height⟩]:=by
    rw [List.set_append_right _ _ (by rw [crsN_len]; exact Nat.le_refl _),crsN_len,Nat.sub_self]; rfl
   rw [e3,e4]
   refine chn_snoc ?_ (chn_crsN hn m)
   have h3:=h2 m (by omega)
   have h4:=(each_of hn m).1
   unfold under at h3
   rw [decide_eq_true_eq] at h3
   omega
theorem crs_in {s:Sht} (hn:Nums s) {i:Int} (h0:0≤i) (h1:i < ((coursesL s).length:Int)):0≤((coursesL s).getD i.toNat default).frm∧((coursesL s).getD i.toNat default).frm < ((coursesL s).getD i.toNat default).to∧((coursesL s).getD i.toNat default).to≤s.height:=
 chn_mem (courses_chn hn) _ (getD_memS (l:=coursesL s) (i:=i.toNat) (by omega))
theorem width_in {s:Sht} (h:sheetP s=true) {z:Int} (h0:0≤z) (h1:z≤s.height):1≤widthI s z∧widthI s z≤3000:=by
 have hn:=sheetP_nums h
 have hb:=hn.batter; have hbs:=hn.base; have hh:=hn.height
 have hw:=sheetP_width h
 unfold widthI at *
 have e1:0≤s.batter*z:=Int.mul_nonneg (by omega) h0
 have e2:s.batter*z≤s.batter*s.height:=Int.mul_le_mul_of_nonneg_left h1 (by omega)
 rw [Int.tdiv_eq_ediv_of_nonneg (by omega)] at hw
 rw [Int.tdiv_eq_ediv_of_nonneg e1]
 omega
theorem sumB_nonneg {f:Crs→Int}:∀ {l:List Crs},(∀ c∈l,0≤f c)→0≤sumB f l
 | [],_=>Int.le_refl _
 | c :: r,h=>by
  rw [sumB_cons]
  have:=h c (List.mem_cons_self ..)
  have:=sumB_nonneg (f:=f) (l:=r) (fun d hd=>h d (List.mem_cons_of_mem _ hd))
  omega
theorem sumB_le {f:Crs→Int} {k:Int}:∀ {l:List Crs},(∀ c∈l,f c≤k)→sumB f l≤l.length*k
 | [],_=>by simp [sumB]
 | c :: r,h=>by
  rw [sumB_cons,List.length_cons]
  have h1:=h c (List.mem_cons_self ..)
  have h2:=sumB_le (f:=f) (k:=k) (l:=r) (fun d hd=>h d (List.mem_cons_of_mem _ hd))
  have e:((r.length+1:Nat):Int)*k=r.length*k+k:=by rw [Int.natCast_add,Int.add_mul]; simp
  omega
theorem sumB_drop {f:Crs→Int} {l:List Crs} {i:Int} (h0:0≤i) (h:i < (l.length:Int)):sumB f (l.drop i.toNat)=f (l.getD i.toNat default)+sumB f (l.drop (i+1).toNat):=by
 rw [show(i+1).toNat=i.toNat+1 from by omega,List.drop_eq_getElem_cons (by omega),sumB_cons,List.getD_eq_getElem?_getD,List.getElem?_eq_getElem (by omega)]; rfl
theorem sumB_done {f:Crs→Int} {l:List Crs} {i:Int} (h:¬ i < (l.length:Int)):sumB f (l.drop i.toNat)=0:=by
 rw [List.drop_of_length_le (by omega)]; rfl
theorem sumB_mul {f:Crs→Int} (k:Int):∀ l:List Crs,sumB (fun c=>f c*k) l=sumB f l*k
 | []=>by simp [sumB]
 | c :: r=>by rw [sumB_cons,sumB_cons,sumB_mul k r,Int.add_mul]
theorem lenL_sum (l:List Crs):lenL l=sumB (fun c=>c.to - c.frm) l:=rfl
theorem areaS_eq (c:Crs) (k:Int) (l:List Crs):sumB (fun b=>areaC c b*k) l=lenL l*(c.to - c.frm)*k:=by
 rw [sumB_mul,lenL_sum]
 unfold areaC
 rw [sumB_mul]
theorem mul_bd {a b x y:Int} (h0:0≤a) (h1:a≤x) (h2:0≤b) (h3:b≤y):0≤a*b∧a*b≤x*y:=by
 refine⟨Int.mul_nonneg h0 h2,Int.le_trans (Int.mul_le_mul_of_nonneg_right h1 h2) (Int.mul_le_mul_of_nonneg_left h3 (by omega))⟩
theorem areaS_bd {v:Wll} {s:Sht} (hF:WallF v s.height) {c:Crs} (hc:0≤c.frm∧c.frm < c.to∧c.to≤3000) {k:Int} (hk:0≤k∧k≤3000):0≤sumB (fun b=>areaC c b*k) (baysC v c)∧sumB (fun b=>areaC c b*k) (baysC v c)≤900000000000:=by
 have hl:=hF.len
 have h1:=runs_sum (by omega) (baysP_runs hF (inCrs c))
 rw [areaS_eq]
 obtain⟨a1,a2⟩:=mul_bd (x:=100000) (y:=3000) (b:=c.to - c.frm) h1.1 (by omega) (by omega) (by omega)
 exact mul_bd (x:=300000000) (y:=3000) a1 a2 hk.1 hk.2
theorem faceW_in {s:Sht} (h:sheetP s=true) {c:Crs} (hc:0≤c.frm∧c.frm < c.to∧c.to≤s.height):0≤faceW s c∧faceW s c≤3000:=by
 have hw:=width_in h hc.1 (by omega)
 have hs:=(sheetP_nums h).skin
 unfold faceW; omega
theorem heartW_in {s:Sht} (h:sheetP s=true) {c:Crs} (hc:0≤c.frm∧c.frm < c.to∧c.to≤s.height):0≤heartW s c∧heartW s c≤3000:=by
 have hw:=width_in h hc.1 (by omega)
 have hs:=(sheetP_nums h).skin
 unfold heartW; omega
end Go.Pln
namespace Go.Pln
open Go Go.K Go.RowKit Go.Stn
theorem mem_drop {α:Type} {l:List α} {n:Nat} {x:α} (h:x∈l.drop n):x∈l:=List.mem_of_mem_drop h
theorem areaC_in {v:Wll} {s:Sht} (hF:WallF v s.height) {c:Crs} (hc:0≤c.frm∧c.frm < c.to∧c.to≤3000) {b:Crs} (hb:b∈baysC v c):0≤areaC c b∧areaC c b≤300000000:=by
 obtain⟨h1,h2,h3,_⟩:=runs_mem (baysP_runs hF (inCrs c)) b hb
 have hl:=hF.len
 unfold areaC
 exact mul_bd (x:=100000) (y:=3000) (by omega) (by omega) (by omega) (by omega)
theorem bay_rest {v:Wll} {s:Sht} (hF:WallF v s.height) {c:Crs} (hc:0≤c.frm∧c.frm < c.to∧c.to≤3000) {k:Int} (hk:0≤k) (n:Nat):0≤sumB (fun b=>areaC c b*k) ((baysC v c).drop n):=
 sumB_nonneg fun _b hb=>Int.mul_nonneg (areaC_in hF hc (mem_drop hb)).1 hk
theorem crs_mem {s:Sht} (hn:Nums s) {c:Crs} (h:c∈coursesL s):0≤c.frm∧c.frm < c.to∧c.to≤s.height:=chn_mem (courses_chn hn) c h
theorem faceC_in {v:Wll} {s:Sht} (hF:WallF v s.height) (hs:sheetP s=true) {c:Crs} (h:c∈coursesL s):0≤faceC v s c∧faceC v s c≤900000000000:=by
 have hn:=sheetP_nums hs
 have hh:=hn.height
 have hc:=crs_mem hn h
 exact areaS_bd hF (by omega) (faceW_in hs hc)
theorem heartC_in {v:Wll} {s:Sht} (hF:WallF v s.height) (hs:sheetP s=true) {c:Crs} (h:c∈coursesL s):0≤heartC v s c∧heartC v s c≤900000000000:=by
 have hn:=sheetP_nums hs
 have hh:=hn.height
 have hc:=crs_mem hn h
 exact areaS_bd hF (by omega) (heartW_in hs hc)
theorem face_rest {v:Wll} {s:Sht} (hF:WallF v s.height) (hs:sheetP s=true) (n:Nat):0≤sumB (faceC v s) ((coursesL s).drop n):=sumB_nonneg fun _c hc=>(faceC_in hF hs (mem_drop hc)).1
theorem heart_rest {v:Wll} {s:Sht} (hF:WallF v s.height) (hs:sheetP s=true) (n:Nat):0≤sumB (heartC v s) ((coursesL s).drop n):=sumB_nonneg fun _c hc=>(heartC_in hF hs (mem_drop hc)).1
theorem face_tot {v:Wll} {s:Sht} (hF:WallF v s.height) (hs:sheetP s=true):faceL v s≤90000000000000:=by
 have h1:=sumB_le (f:=faceC v s) (k:=900000000000) (l:=coursesL s) fun c hc=>(faceC_in hF hs hc).2
 have h2:=sheetP_courses hs
 have h3:((coursesL s).length:Int)*900000000000≤100*900000000000:=Int.mul_le_mul_of_nonneg_right (by omega) (by decide)
 unfold faceL
 omega
theorem heart_tot {v:Wll} {s:Sht} (hF:WallF v s.height) (hs:sheetP s=true):heartL v s≤90000000000000:=by
 have h1:=sumB_le (f:=heartC v s) (k:=900000000000) (l:=coursesL s) fun c hc=>(heartC_in hF hs hc).2
 have h2:=sheetP_courses hs
 have h3:((coursesL s).length:Int)*900000000000≤100*900000000000:=Int.mul_le_mul_of_nonneg_right (by omega) (by decide)
 unfold heartL
 omega
theorem area_eq {c b:Crs} (hb:0≤b.frm∧b.frm < b.to∧b.to≤100000) (hc:0≤c.frm∧c.frm < c.to∧c.to≤3000):W (W (b.to - b.frm)*W (c.to - c.frm))=areaC c b:=by
 rw [wrap_in (n:=b.to - b.frm) (by omega) (by omega),wrap_in (n:=c.to - c.frm) (by omega) (by omega)]
 have:=mul_bd (a:=b.to - b.frm) (b:=c.to - c.frm) (x:=100000) (y:=3000) (by omega) (by omega) (by omega) (by omega)
 exact wrap_in (by omega) (by omega)
theorem face_eq {s:Sht} (hs:sheetP s=true) {c:Crs} (hc:0≤c.frm∧c.frm < c.to∧c.to≤s.height) {f a:Int} (ha:0≤a∧a≤300000000) (h0:0≤f) (h1:f+a*faceW s c≤90000000000000) :
  W (f+W (a*min (W (2*s.skin)) (widthI s c.frm)))=f+a*faceW s c:=by
 have hk:=(sheetP_nums hs).skin
 have hw:=faceW_in hs hc
 rw [wrap_in (n:=2*s.skin) (by omega) (by omega),show min (2*s.skin) (widthI s c.frm)=faceW s c from rfl]
 have:=mul_bd (x:=300000000) (y:=3000) ha.1 ha.2 hw.1 hw.2
 rw [wrap_in (n:=a*faceW s c) (by omega) (by omega)]
 exact wrap_in (by omega) (by omega)
theorem heart_eq {s:Sht} (hs:sheetP s=true) {c:Crs} (hc:0≤c.frm∧c.frm < c.to∧c.to≤s.height) {f a:Int} (ha:0≤a∧a≤300000000) (h0:0≤f) (h1:f+a*heartW s c≤90000000000000) :
  W (f+W (a*max (W (widthI s c.frm - W (2*s.skin))) 0))=f+a*heartW s c:=by
 have hk:=(sheetP_nums hs).skin
 have hw:=heartW_in hs hc
 have hi:=width_in hs hc.1 (by omega)
 rw [wrap_in (n:=2*s.skin) (by omega) (by omega),wrap_in (n:=widthI s c.frm - 2*s.skin) (by omega) (by omega),show max (widthI s c.frm - 2*s.skin) 0=heartW s c from rfl]
 have:=mul_bd (x:=300000000) (y:=3000) ha.1 ha.2 hw.1 hw.2
 rw [wrap_in (n:=a*heartW s c) (by omega) (by omega)]
 exact wrap_in (by omega) (by omega)
theorem foot_eq {v:Wll} {s:Sht} (hF:WallF v s.height) (hs:sheetP s=true):W (W (v.length*s.footing)*W (s.base+W (2*s.spread)))=footL v s:=by
 have hn:=sheetP_nums hs
 have hl:=hF.len; have hb:=hn.base; have hf:=hn.foot
 obtain⟨a1,a2⟩:=mul_bd (a:=v.length) (b:=s.footing) (x:=100000) (y:=1000) (by omega) (by omega) (by omega) (by omega)
 obtain⟨b1,b2⟩:=mul_bd (a:=v.length*s.footing) (b:=s.base+2*s.spread) (x:=100000000) (y:=5000) a1 a2 (by omega) (by omega)
 rw [wrap_in (n:=v.length*s.footing) (by omega) (by omega),wrap_in (n:=2*s.spread) (by omega) (by omega),wrap_in (n:=s.base+2*s.spread) (by omega) (by omega)]
 exact wrap_in (by omega) (by omega)
theorem rood_in {v:Wll} {s:Sht} (hF:WallF v s.height) (hs:sheetP s=true):0≤roodL v s∧roodL v s≤10000000:=by
 have hl:=hF.len; have hr:=(sheetP_nums hs).rood
 unfold roodL
 rw [Int.tdiv_eq_ediv_of_nonneg (by omega)]
 refine⟨Int.ediv_nonneg (by omega) (by omega),?_⟩
 exact Int.le_trans (Int.ediv_le_self _ (by omega)) (by omega)
theorem rood_eq {v:Wll} {s:Sht} (hF:WallF v s.height) (hs:sheetP s=true):W (Int.tdiv (100*v.length) s.rood)=roodL v s:=by
 have:=rood_in hF hs
 exact wrap_in (n:=roodL v s) (by omega) (by omega)
theorem copF_mem {t to:Int} (ht:1≤t) {k:Cpe}:∀ {f:Nat} {x h o:Int},k∈copF t to f x h o→(1≤k.width∧k.width≤t)∧(k.high=h∨k.high=o)
 | 0,_,_,_,hk=>by cases hk
 | f+1,x,h,o,hk=>by
  rw [copF] at hk
  split at hk
  ·rcases List.mem_cons.1 hk with rfl | hk
   ·exact⟨⟨by simp only []; omega,by simp only []; omega⟩,.inl rfl⟩
   ·obtain⟨h1,h2⟩:=copF_mem ht hk
    exact⟨h1,h2.symm⟩
  ·cases hk
theorem cope_mem {v:Wll} {s:Sht} (hs:sheetP s=true) {k:Cpe} (h:k∈copesL v s):(1≤k.width∧k.width≤1000)∧(1≤k.high∧k.high≤1000):=by
 unfold copesL at h
 split at h
 ·cases h
 ·rename_i hc
  obtain⟨h1,h2,h3⟩:=cope_in hs hc
  obtain⟨b,_,hb⟩:=List.mem_flatMap.1 h
  obtain⟨h4,h5⟩:=copF_mem h1.1 hb
  refine⟨by omega,?_⟩
  rcases h5 with h5 | h5 <;> omega
def topS (s:Sht) (l:List Cpe):Int:=(l.map (topF s)).sum
theorem topS_drop {s:Sht} {l:List Cpe} {i:Int} (h0:0≤i) (h:i < (l.length:Int)):topS s (l.drop i.toNat)=topF s (l.getD i.toNat default)+topS s (l.drop (i+1).toNat):=by
 rw [show(i+1).toNat=i.toNat+1 from by omega,List.drop_eq_getElem_cons (by omega),List.getD_eq_getElem?_getD,List.getElem?_eq_getElem (by omega)]
 unfold topS
 rw [List.map_cons,List.sum_cons]; rfl
theorem topS_done {s:Sht} {l:List Cpe} {i:Int} (h:¬ i < (l.length:Int)):topS s (l.drop i.toNat)=0:=by
 rw [List.drop_of_length_le (by omega)]; rfl
theorem topF_in {v:Wll} {s:Sht} (hs:sheetP s=true) {k:Cpe} (h:k∈copesL v s):(0≤k.width*k.high∧k.width*k.high≤1000000)∧0≤topF s k∧topF s k≤3000000000:=by
 obtain⟨h1,h2⟩:=cope_mem hs h
 have hw:=width_in hs (z:=s.height) (by have:=(sheetP_nums hs).height; omega) (Int.le_refl _)
 obtain⟨a1,a2⟩:=mul_bd (x:=1000) (y:=1000) (a:=k.width) (b:=k.high) (by omega) h1.2 (by omega) h2.2
 refine⟨⟨a1,a2⟩,?_⟩
 exact mul_bd (x:=1000000) (y:=3000) a1 a2 (by omega) hw.2
theorem topS_in {v:Wll} {s:Sht} (hs:sheetP s=true):∀ {l:List Cpe},(∀ k∈l,k∈copesL v s)→0≤topS s l∧topS s l≤l.length*3000000000
 | [],_=>by simp [topS]
 | k :: r,h=>by
  have h1:=topF_in hs (h k (List.mem_cons_self ..))
  have h2:=topS_in hs (l:=r) fun x hx=>h x (List.mem_cons_of_mem _ hx)
  unfold topS at *
  rw [List.map_cons,List.sum_cons,List.length_cons]
  have e:((r.length+1:Nat):Int)*3000000000=r.length*3000000000+3000000000:=by rw [Int.natCast_add,Int.add_mul]; simp
  omega
theorem top_rest {v:Wll} {s:Sht} (hs:sheetP s=true) (n:Nat):0≤topS s ((copesL v s).drop n):=(topS_in hs fun _ hk=>mem_drop hk).1
theorem top_tot {v:Wll} {s:Sht} (hF:WallF v s.height) (hs:sheetP s=true):topL v s≤300000000000000:=by
 have h1:=(topS_in (v:=v) hs (l:=copesL v s) fun _ hk=>hk).2
 have h2:=copesL_num hF
 have h3:((copesL v s).length:Int)*3000000000≤100000*3000000000:=Int.mul_le_mul_of_nonneg_right h2 (by decide)
 show topS s (copesL v s)≤_
 omega
theorem top_eq {s:Sht} {v:Wll} (hs:sheetP s=true) {k:Cpe} (h:k∈copesL v s) {t:Int} (h0:0≤t) (h1:t+topF s k≤300000000000000):W (t+W (W (k.width*k.high)*widthW s s.height))=t+topF s k:=by
 have hn:=sheetP_nums hs
 obtain⟨a,b⟩:=topF_in hs h
 rw [width_eq hn.batter hn.base (by have:=hn.height; omega) (by have:=hn.height; omega),wrap_in (n:=k.width*k.high) (by omega) (by omega),show k.width*k.high*widthI s s.height=topF s k from rfl,wrap_in (n:=topF s k) (by omega) (by omega)]
 exact wrap_in (by omega) (by omega)
theorem width_at {s:Sht} (hs:sheetP s=true) {z:Int} (h0:0≤z) (h1:z≤s.height):widthW s z=widthI s z:=by
 have hn:=sheetP_nums hs
 exact width_eq hn.batter hn.base h0 (by have:=hn.height; omega)
end Go.Pln