/- What the proof of the root text leans on, part 5: the layer, plain facts and walks. No statement of the seat is proved in this text. -/
import Derived.Test.YtdcfcfhmkfkgmaaGreatDoorPk4
namespace Go.Proofs.YtdcfcfhmkfkgmaaGreatDoor
open Go.K Go.Stn Go.Pln Go.RowKit
theorem zni:FO Tryz.prog 94 1 1:=⟨by kernel_rfl⟩
theorem af29:AF Tryz.prog 29 94 4 64 [.string ⟨#[]⟩,.string ⟨#[]⟩,.int IntKind.i64 0,.slice none 0 0]:=⟨Tryz.underlying29,by kernel_rfl,rfl⟩
theorem en47:En Tryz.prog 47:=za7 Tryz.func47 (by kernel_rfl) (by kernel_rfl)
theorem en48:En Tryz.prog 48:=za7 Tryz.func48 (by kernel_rfl) (by kernel_rfl)
theorem zn9 (x0:ByteArray) (x1:ByteArray) (w:World):(Instr.build 94 #[(0,.string x0),(1,.string x1)]).run Tryz.prog w=.ok (.agg #[.string x0,.string x1,.int IntKind.i64 0,.slice none 0 0]) w:=by kernel_rfl
theorem zsD (x0:WlC) (w:World):(Instr.buildSlice 29 1 #[(0,.agg #[.string x0.s.name,.string x0.s.sheet,.int .i64 x0.s.length,.slice x0.a x0.s.opens.length x0.cap])]).run Tryz.prog w=.ok (.slice (some ⟨w.heap.size,0,none⟩) 1 1) (w.alloc (.cells (([x0]:List (WlC)).flatMap zbS).toArray 94)):=by kernel_rfl
theorem zrR {q:Plan} (hq:OkQ q) (n:ByteArray):0≤(getS q.S n).height∧(getS q.S n).height≤3000:=by
 unfold getS
 split
 ·rename_i h
  have hl:zew q.S n < (q.S.length:Int):=Stn.findI_lt _ h
  have:=(zaZ (hq.sh _ (za0 (l:=q.S) (i:=(zew q.S n).toNat) (by omega)))).height
  omega
 ·exact⟨by decide,by decide⟩
set_option maxRecDepth 100000 in
set_option maxHeartbeats 8000000 in
theorem ztT (r:Nat) (ws:List ByteArray) (p:Nat) (q:Plan) (bp:Nat) (w:World) (B:Nat→Prop) (hB:∀ k,B k→k < w.heap.size) (hA:(SepR [Rdr 161 r ws,PlP p q]).A B w) (hq:OkQ q) (hb:Rd (fun k=>k < w.heap.size∧¬ B k) w (Box bp [.pointer (some ⟨p,0,none⟩)] 157)) (_hws:ws.length≤100000) :
  Calls Tryz.prog 112 #[.pointer (some ⟨r,0,none⟩),.pointer (some ⟨bp,0,none⟩)] w (zi5 33 (zb1 q ws) (fun _x (_:Unit)=>.tuple #[]) (fun x _=>PlP p x) (plAt yP p) B w):=by
 refine zby hB hA (vs:=[_,_]) Tryz.func112 rfl rfl (Nat.le_of_ble_eq_true rfl) ?_
 refine zbP ?_
 refine zac (zaa (gM ?_))
 refine zbZ (res:=zes ws) 0 ztG rfl rfl rfl (fun w B hF=>zqa r ws w B (fun k hk=>(hF.own k hk).2) hF.A) (fun k hk7=>?_) (fun x7 m7 hx7=>?_)
 ·
  exact zbG 1 rfl zdy (by rw [zb1,hk7]; first | done | rfl)
 refine gM ?_
 refine zbZ (res:=zes x7.2) 0 ztG rfl rfl rfl (fun w B hF=>zqa r x7.2 w B (fun k hk=>(hF.own k hk).2) hF.A) (fun k hk9=>?_) (fun x9 m9 hx9=>?_)
 ·
  exact zbG 1 rfl zdy (by rw [zb1,hx7,zak,hk9]; first | done | rfl)
 refine gQ (zaI rfl (zn9 _ _)) ?_
 refine zaG rfl rfl (zaL tf94 (zs:=[_,_,_,_]) rfl) fun b3=>?_
 refine zaA 0 tf94 rfl rfl (vs:=[_,_,_,_]) rfl rfl rfl rfl rfl ?_
 refine zag (zae (T':=[(0,_),(1,_),(3,_)]) ⟨rfl,rfl,rfl,trivial⟩ ?_)
 refine zac (zaa (gM ?_))
 refine gQ (zab zgo rfl) ?_
 refine zaG rfl rfl (zaD rfl (zed (b3,2)) zbj rfl) fun b13=>?_
 refine zao 1 rfl ?_
 refine zao 2 rfl ?_
 refine zbT 2 ?_
 refine zbZ (res:=zco 1 x9.2) 0 zpl rfl rfl rfl (fun w B hF=>zfl r x9.2 b3 [.string x7.1,.string x9.1,.int .i64 0,.slice none 0 0] 94 [2] [(b3,2)] _ _ w B (fun k hk=>(hF.own k hk).2) hF.A (zdX zbj (hF.other 0 rfl)) rfl (by intro o ho; simp at ho; simp; omega) (by simp [Small])) (fun k hk14=>?_) (fun x14 m14 hx14=>?_)
 ·
  exact zbG 2 rfl zdy (by rw [zb1,hx7,zak,hx9,zak,hk14]; first | done | rfl)
 refine zbP ?_
 refine za2 (R':=Box b3 [.string x7.1,.string x9.1,.int .i64 ((x14.1).getD 0 0),.slice none 0 0] 94) 1 rfl (fun B w hA=>hA) ?_
 refine zaK 2 rfl ?_
 refine zag (zae (T':=[(0,_),(1,_),(3,_)]) ⟨rfl,rfl,rfl,trivial⟩ ?_)
 refine zac (zaa (gM ?_))
 refine zbZ (res:=endE x14.2) 0 ztF rfl rfl rfl (fun w B hF=>ztK r x14.2 w B (fun k hk=>(hF.own k hk).2) hF.A) (fun k hk16=>?_) (fun x16 m16 hx16=>?_)
 ·
  exact zbG 2 rfl zdy (by rw [zb1,hx7,zak,hx9,zak,hx14,zak,hk16]; first | done | rfl)
 refine zag (zae (T':=[(1,_),(3,_)]) ⟨rfl,rfl,trivial⟩ ?_)
 refine zao 2 rfl ?_
 refine zgq fun sa sc S wa wc V hS hV=>?_
 have hlS:S.length=q.S.length:=by rw [←hS,List.length_map]
 have hlV:V.length=q.V.length:=by rw [←hV,List.length_map]
 have hq20:=hq.ls
 have hq50:=hq.lv
 refine zac (zf3 (ch [(9,Nat)]) 12 [0,1,3,0,8,31,63,127,127,0,767,2047] (fun _=>mixed) (by kernel_rfl) (zjK _ ⟨inferInstance,trivial⟩) ?_)
 refine zbD (fun ρ=>zbW zg6 rfl (fun _ hw=>zaQ (Rd.has hb hw) rfl)) (fun ρ ρ' h=>by rfl) ?_
 refine zbD (fun ρ=>zbx rfl) (fun ρ ρ' h=>by rfl) ?_
 refine zbD (fun ρ=>zat 0 tf31 rfl rfl (vs:=[_,_]) rfl rfl) (fun ρ ρ' h=>by rfl) ?_
 refine zbD (fun ρ=>zab zni rfl) (fun ρ ρ' h=>by rfl) ?_
 refine zbD (fun ρ=>zah 6 tf9 rfl rfl rfl) (fun ρ ρ' h=>by rfl) ?_
 refine zbD (fun ρ=>zaJ en46 rfl (fun w hw=>zeu _ _ S _ _ _ x9.1 w (zam zbI (hw.has (p:=1) rfl)) (by unfold Small; omega))) (fun ρ ρ' h=>by rfl) ?_
 refine zbD (fun ρ=>zaf rfl) (fun ρ ρ' h=>by rfl) ?_
 refine zbD (fun ρ=>zaB rfl rfl) (fun ρ ρ' h=>by rfl) ?_
 refine zbD (fun ρ=>zaB rfl rfl) (fun ρ ρ' h=>by rfl) ?_
 refine zgB (fun ρ=>zaL tf41 (zs:=[_,_,_,_,_,_,_,_,_,_,_,_,_,_,_,_,_,_,_,_]) rfl) (fun ρ ρ' h=>⟨by rfl,by rfl⟩) ?_
 refine zlr (R:=fun ρ=>Box (ρ 9) [.string ⟨#[]⟩,.int .i64 0,.int .i64 0,.int .i64 0,.int .i64 0,.slice none 0 0,.int .i64 0,.int .i64 0,.int .i64 0,.int .i64 0,.int .i64 0,.int .i64 0,.int .i64 0,.int .u8 0,.int .i64 0,.int .i64 0,.int .i64 0,.int .i64 0,.int .i64 0,.int .i64 0] 41) (A:=fun ρ=>Box (ρ 9) [.string (zav S x9.1).s.name,.int .i64 ((zav S x9.1).s.base),.int .i64 ((zav S x9.1).s.batter),.int .i64 ((zav S x9.1).s.height),.int .i64 ((zav S x9.1).s.skin),.slice (zav S x9.1).a (zav S x9.1).s.heights.length (zav S x9.1).cap,.int .i64 ((zav S x9.1).s.least),.int .i64 ((zav S x9.1).s.lap),.int .i64 ((zav S x9.1).s.run),.int .i64 ((zav S x9.1).s.every),.int .i64 ((zav S x9.1).s.at_),.int .i64 ((zav S x9.1).s.footing),.int .i64 ((zav S x9.1).s.spread),.int .u8 (zav S x9.1).s.cope,.int .i64 ((zav S x9.1).s.tall),.int .i64 ((zav S x9.1).s.short),.int .i64 ((zav S x9.1).s.thick),.int .i64 ((zav S x9.1).s.low),.int .i64 ((zav S x9.1).s.high),.int .i64 ((zav S x9.1).s.rood)] 41) 9 rfl rfl (fun _=>rfl) (fun ρ=>zex tf41 rfl rfl (vs:=[_,_,_,_,_,_,_,_,_,_,_,_,_,_,_,_,_,_,_,_]) rfl rfl rfl rfl rfl) (fun ρ ρ' h=>by(first | rfl | simp only [h 9 rfl])) ?_
 refine zbD (fun ρ=>zad rfl) (fun ρ ρ' h=>by rfl) ?_
 refine fun ρ=>zag (zf4 (X:=Nat) (ρ 9) (fun b4=>[(1,.pointer (some ⟨bp,0,none⟩)),(3,.pointer (some ⟨b3,0,none⟩)),(4,.pointer (some ⟨b4,0,none⟩)),(5,.bool (decide (0≤zaS S x9.1)))]) (fun b4=>[Box b4 [.string (zav S x9.1).s.name,.int .i64 ((zav S x9.1).s.base),.int .i64 ((zav S x9.1).s.batter),.int .i64 ((zav S x9.1).s.height),.int .i64 ((zav S x9.1).s.skin),.slice (zav S x9.1).a (zav S x9.1).s.heights.length (zav S x9.1).cap,.int .i64 ((zav S x9.1).s.least),.int .i64 ((zav S x9.1).s.lap),.int .i64 ((zav S x9.1).s.run),.int .i64 ((zav S x9.1).s.every),.int .i64 ((zav S x9.1).s.at_),.int .i64 ((zav S x9.1).s.footing),.int .i64 ((zav S x9.1).s.spread),.int .u8 (zav S x9.1).s.cope,.int .i64 ((zav S x9.1).s.tall),.int .i64 ((zav S x9.1).s.short),.int .i64 ((zav S x9.1).s.thick),.int .i64 ((zav S x9.1).s.low),.int .i64 ((zav S x9.1).s.high),.int .i64 ((zav S x9.1).s.rood)] 41,Box p [.slice sa S.length sc,.slice wa V.length wc] 31,Row sa 20 sc 41 zbH S,Go.K.Rows (rowH 3) S,Row wa 4 wc 94 zbS V,Go.K.Rows (rowO 98) V,Rdr 161 r x16.2,Box b3 [.string x7.1,.string x9.1,.int .i64 ((x14.1).getD 0 0),.slice none 0 0] 94]) ⟨rfl,rfl,rfl,rfl,trivial⟩ rfl ?_)
 rintro b4
 refine zac (zas ?_)
 refine zac (zbb 8 (fun _=>mixed) (by kernel_rfl) ?_)
 refine ph_y (zbW zg6 rfl (fun _ hw=>zaQ (Rd.has hb hw) rfl)) ?_
 refine ph_y (zbx rfl) ?_
 refine ph_y (zat 1 tf31 rfl rfl (vs:=[_,_]) rfl rfl) ?_
 refine ph_y (zab znh rfl) ?_
 refine ph_y (zah 7 tf9 rfl rfl rfl) ?_
 refine ph_y (zaJ en47 rfl (fun w hw=>zkg _ _ _ _ _ V x7.1 w (zam zbo (hw.has (p:=4) rfl)) (by unfold Small; omega))) ?_
 refine ph_y (zfx rfl rfl) ?_
 refine ph_y (zad rfl) ?_
 refine zag (zae (T':=[(1,_),(3,_),(4,_),(5,_),(26,_)]) ⟨rfl,rfl,rfl,rfl,rfl,trivial⟩ ?_)
 refine zap rfl (fun hc26=>?_) (fun hc26=>?_)
 ·have h26:0≤zss q.V x7.1:=by have:=of_decide_eq_true hc26; rwa [zkx,hV] at this
  refine zaa (zcg en91 rfl (fun w hw=>zdk _ w) ?_)
  exact zbG 1 rfl (zeb (y:=yP)) (by rw [zb1,hx7,zak,hx9,zak,hx14,zak,hx16,zak]; exact if_pos h26)
 ·have h26:¬ 0≤zss q.V x7.1:=by have:=of_decide_eq_false hc26; rwa [zkx,hV] at this
  refine zac (zaa (gM ?_))
  refine gQ (zbR rfl) ?_
  refine gA ?_
  refine zag (zae (T':=[(1,_),(3,_),(4,_),(35,_)]) ⟨rfl,rfl,rfl,rfl,trivial⟩ ?_)
  refine zap rfl (fun hc35=>?_) (fun hc35=>?_)
  ·have h35:¬ 0≤zew q.S x9.1:=by have h:=hc35; rw [zeL,hS] at h; simpa using h
   refine zaa (zcg en91 rfl (fun w hw=>zdk _ w) ?_)
   exact zbG 1 rfl (zeb (y:=yP)) (by rw [zb1,hx7,zak,hx9,zak,hx14,zak,hx16,zak]; exact(if_neg h26).trans (if_neg h35))
  ·have h35:0≤zew q.S x9.1:=by have h:=hc35; rw [zeL,hS] at h; simpa using h
   refine zac (zaa (gk_y rfl rfl (zat 7 tf94 rfl rfl (vs:=[_,_,_,_]) rfl rfl) ?_))
   refine gQ (zat 0 tf41 rfl rfl (vs:=[_,_,_,_,_,_,_,_,_,_,_,_,_,_,_,_,_,_,_,_]) rfl rfl) ?_
   refine gQ (zaJ en48 rfl (fun w hw=>zmI none 0 (⟨x7.1,x9.1,(x14.1).getD 0 0,[]⟩:Wll) _ _ (zav S x9.1).s w ⟨fun _=>False,fun _ h=>h.elim,.inl rfl⟩ (Nat.le_refl _) (by simp [Small]) (by intro o ho; cases ho) (by rw [zf2,hS]; exact zrR hq _))) ?_
   refine gQ (zbR rfl) ?_
   refine gA ?_
   refine zag (zae (T':=[(1,_),(3,_),(39,_)]) ⟨rfl,rfl,rfl,trivial⟩ ?_)
   refine zap rfl (fun hc39=>?_) (fun hc39=>?_)
   ·have h39:¬ zd1 (getS q.S x9.1).height ⟨x7.1,x9.1,(x14.1).getD 0 0,[]⟩=true:=by have h:=hc39; rw [zf2,hS] at h; simpa using h
    refine zaa (zcg en91 rfl (fun w hw=>zdk _ w) ?_)
    exact zbG 1 rfl (zeb (y:=yP)) (by rw [zb1,hx7,zak,hx9,zak,hx14,zak,hx16,zak]; exact(if_neg h26).trans ((if_pos h35).trans (if_neg h39)))
   ·have h39:zd1 (getS q.S x9.1).height ⟨x7.1,x9.1,(x14.1).getD 0 0,[]⟩=true:=by have h:=hc39; rw [zf2,hS] at h; simpa using h
    refine zac (zaa (gk_y rfl rfl (zbW zg6 rfl (fun _ hw=>zaQ (Rd.has hb hw) rfl)) ?_))
    refine gQ (zbx rfl) ?_
    refine gQ (zab zd7 rfl) ?_
    refine gQ (zah 1 tf29 rfl rfl rfl) ?_
    refine gQ (zaV (Tryz.underlying29) rfl) ?_
    refine gQ (zbL rfl rfl) ?_
    refine gA ?_
    refine zag (zae (T':=[(1,_),(3,_),(45,_)]) ⟨rfl,rfl,rfl,trivial⟩ ?_)
    refine zap rfl (fun hc45=>?_) (fun hc45=>?_)
    ·have h45:q.V.length=50:=by have:=of_decide_eq_true hc45; omega
     refine zaa (zcg en91 rfl (fun w hw=>zdk _ w) ?_)
     exact zbG 1 rfl (zeb (y:=yP)) (by rw [zb1,hx7,zak,hx9,zak,hx14,zak,hx16,zak]; exact(if_neg h26).trans ((if_pos h35).trans ((if_pos h39).trans (if_pos h45))))
    ·have h45:¬ q.V.length=50:=by have:=of_decide_eq_false hc45; omega
     refine zaq (zjX (V:=fun z=>.slice z.1 ((V++[(⟨⟨x7.1,x9.1,((x14.1).getD 0 0),[]⟩,none,0⟩:WlC)])).length z.2) (R':=fun z:Option Addr×Nat=>Row z.1 4 z.2 94 zbS (V++[(⟨⟨x7.1,x9.1,((x14.1).getD 0 0),[]⟩,none,0⟩:WlC)])) (Bad:=fun _=>False) 7 [0] 4 60 (fun _=>mixed) rfl rfl (by kernel_rfl) rfl (fun _ hb=>hb.elim) rfl ?_)
     refine zcf (zbW zg6 rfl (fun _ hw=>zaQ (Rd.has hb hw) rfl)) ?_
     refine zcf (zbW zg6 rfl (fun _ hw=>zaQ (Rd.has hb hw) rfl)) ?_
     refine zcf (zbx rfl) ?_
     refine zcf (zab zd7 rfl) ?_
     refine zcf (zah 1 tf29 rfl rfl rfl) ?_
     refine zcf (zat 7 tf94 rfl rfl (vs:=[_,_,_,_]) rfl rfl) ?_
     refine zqp (zaD rfl (zsD (⟨⟨x7.1,x9.1,((x14.1).getD 0 0),[]⟩,none,0⟩:WlC)) zbo rfl) ?_
     refine⟨fun b59=>zhN (m:=[(⟨⟨x7.1,x9.1,((x14.1).getD 0 0),[]⟩,none,0⟩:WlC)]) af29 zbo rfl rfl (fun _ hw=>(zam zbo (hw.has (p:=0) rfl))) (by first | omega | (simp only [List.length_cons,List.length_nil]; omega)) (by first | (unfold maxLen; omega) | (simp only [List.length_cons,List.length_nil,maxLen]; omega)),?_⟩
     intro z60
     intro b59
     refine zae (T':=[(53,_),(60,_)]) ⟨rfl,rfl,trivial⟩ ?_
     refine gQ (zbx rfl) ?_
     refine gQ (zab zd7 rfl) ?_
     refine zaA 2 tf29 rfl rfl (vs:=[_]) rfl rfl rfl rfl rfl ?_
     refine zag (zae (T':=[]) trivial ?_)
     refine zbB 98 zba 5 ?_
     refine zao 7 rfl ?_
     refine zbT 2 ?_
     refine za2 (R':=Go.K.Rows (rowO 98) (V++[(⟨⟨x7.1,x9.1,(x14.1).getD 0 0,[]⟩,none,0⟩:WlC)])) 0 rfl (fun B w hA=>zfr (f:=rowO 98) hA) ?_
     refine zao 6 rfl ?_
     refine zao 6 rfl ?_
     refine zao 6 rfl ?_
     refine zao 6 rfl ?_
     refine zgU (y:=yP) (q:=⟨q.S,q.V++[⟨x7.1,x9.1,(x14.1).getD 0 0,[]⟩]⟩) (hS) (by rw [List.map_append,hV]; rfl) ?_
     exact zik ⟨q.S,q.V++[⟨x7.1,x9.1,(x14.1).getD 0 0,[]⟩]⟩ () 0 (zcN rfl) rfl rfl (by rw [zb1,hx7,zak,hx9,zak,hx14,zak,hx16,zak]; exact(if_neg h26).trans ((if_pos h35).trans ((if_pos h39).trans (if_neg h45))))
end Go.Proofs.YtdcfcfhmkfkgmaaGreatDoor
namespace Go.Proofs.YtdcfcfhmkfkgmaaGreatDoor
open Go.K Go.Stn Go.Pln Go.RowKit
theorem zxv:SA Tryz.prog 138 9 5 1:=⟨Tryz.underlying138,by kernel_rfl⟩
theorem af92:AF Tryz.prog 92 98 5 40 [.int IntKind.u8 0,.int IntKind.i64 0,.int IntKind.i64 0,.int IntKind.i64 0,.int IntKind.i64 0]:=⟨Tryz.underlying92,by kernel_rfl,rfl⟩
theorem ztn (x0:Int) (w:World):(Instr.build 98 #[(0,.int .u8 x0)]).run Tryz.prog w=.ok (.agg #[.int .u8 x0,.int IntKind.i64 0,.int IntKind.i64 0,.int IntKind.i64 0,.int IntKind.i64 0]) w:=by kernel_rfl
theorem zo2 (x0_0:Int) (x0_1:Int) (x0_2:Int) (x0_3:Int) (x0_4:Int) (w:World):(Instr.buildSlice 92 1 #[(0,.agg #[.int .u8 x0_0,.int .i64 x0_1,.int .i64 x0_2,.int .i64 x0_3,.int .i64 x0_4])]).run Tryz.prog w=.ok (.slice (some ⟨w.heap.size,0,none⟩) 1 1) (w.alloc (.cells (([⟨x0_0,x0_1,x0_2,x0_3,x0_4⟩]:List (Opn)).flatMap zba).toArray 98)):=by kernel_rfl
theorem zts (x0:Nat×Nat) (x1:Nat×Nat) (x2:Nat×Nat) (x3:Nat×Nat) (w:World):(Instr.buildSlice 206 4 #[(0,.pointer (some ⟨x0.1,x0.2,none⟩)),(1,.pointer (some ⟨x1.1,x1.2,none⟩)),(2,.pointer (some ⟨x2.1,x2.2,none⟩)),(3,.pointer (some ⟨x3.1,x3.2,none⟩))]).run Tryz.prog w=.ok (.slice (some ⟨w.heap.size,0,none⟩) 4 4) (w.alloc (.cells (([x0,x1,x2,x3]:List (Nat×Nat)).flatMap zhZ).toArray 186)):=by kernel_rfl
theorem zqi {q:Plan} (hq:OkQ q) (n:ByteArray):0≤(getS q.S n).height∧(getS q.S n).height≤3000:=by
 unfold getS
 split
 ·rename_i h
  have hl:zew q.S n < (q.S.length:Int):=Stn.findI_lt _ h
  have:=(zaZ (hq.sh _ (za0 (l:=q.S) (i:=(zew q.S n).toNat) (by omega)))).height
  omega
 ·exact⟨by decide,by decide⟩
theorem zsY {q:Plan} {V:List WlC} (hV:V.map (·.s)=q.V) {i:Nat} (hi:i+1=V.length):(V.getD i default).s=q.V.getD (q.V.length - 1) default:=by
 rw [←hV,List.length_map,show V.length - 1=i from by omega,zeq (fun z:WlC=>z.s) rfl]
theorem zmh {q:Plan} {V:List WlC} (hq:OkQ q) (hV:V.map (·.s)=q.V) {i:Nat} (hi:i+1=V.length):(V.getD i default).s.opens.length≤20∧∀ o∈(V.getD i default).s.opens,Knd o:=by
 refine hq.wv _ ?_
 rw [←hV]
 exact List.mem_map_of_mem (za0 (by omega))
theorem zrI {v:Wll} {o:Opn} (h:∀ z∈v.opens,Knd z) (ho:Knd o):∀ z∈(more v o).opens,Knd z:=by
 intro z hz
 rcases List.mem_append.1 hz with h' | h'
 ·exact h z h'
 ·rw [List.mem_singleton] at h'; rw [h']; exact ho
theorem zrC {ws:List ByteArray} {x:Int×List ByteArray} (h:zfk opensW 1 ws=.ok x) (a b c d:Int):Knd ⟨x.1,a,b,c,d⟩:=by
 have hk:=znp h
 have:(opensW.length:Int)=5:=rfl
 exact⟨by dsimp only; omega,by dsimp only; omega⟩
theorem zxy {q:Plan} {V:List WlC} (hV:V.map (·.s)=q.V) {i:Nat} (hi:i+1=V.length) (o:Opn) (a:Option Addr) (c:Nat):(V.set i ⟨more (V.getD i default).s o,a,c⟩).map (·.s)=q.V.set (q.V.length - 1) (more (q.V.getD (q.V.length - 1) default) o):=by
 rw [List.map_set,hV,zsY hV hi,show q.V.length - 1=i from by rw [←hV,List.length_map]; omega]
theorem zwj {α:Type} [Inhabited α] {V:List α} {i:Nat} (hi:i+1=V.length) (x:α):(V.set i x).getD i default=x:=by
 rw [List.getD_eq_getElem?_getD,List.getElem?_set_self (by omega)]; rfl
theorem zot {α:Type} [Inhabited α] {f:α→Res} {V:List α} {i:Nat} {B:Nat→Prop} {w:World} (h:i+1=V.length) (hA:(Go.K.Rows f V).A B w):(SepR [Go.K.Rows f (V.take i),f (V.getD i default)]).A B w:=by
 have h1:=zqE (f:=f) (by omega) hA
 rwa [show V.length - 1=i from by omega] at h1
theorem zqF {α:Type} [Inhabited α] {f:α→Res} {V:List α} {i:Nat} {x:α} {B:Nat→Prop} {w:World} (h:i+1=V.length) (hA:(SepR [Go.K.Rows f (V.take i),f x]).A B w):(Go.K.Rows f (V.set i x)).A B w:=by
 have h0:V.length - 1=i:=by omega
 have h1:=zsc (f:=f) (V:=V) (x:=x) (by omega) (by rw [h0]; exact hA)
 rwa [h0] at h1
set_option maxRecDepth 100000 in
set_option maxHeartbeats 8000000 in
theorem ztU (r:Nat) (ws:List ByteArray) (p:Nat) (q:Plan) (bp:Nat) (w:World) (B:Nat→Prop) (hB:∀ k,B k→k < w.heap.size) (hA:(SepR [Rdr 161 r ws,PlP p q]).A B w) (hq:OkQ q) (hb:Rd (fun k=>k < w.heap.size∧¬ B k) w (Box bp [.pointer (some ⟨p,0,none⟩)] 157)) (_hws:ws.length≤100000) (hop:Rd (fun k=>k < w.heap.size∧¬ B k) w (zaW (some ⟨1,0,none⟩) 1 encS opensW)) :
  Calls Tryz.prog 115 #[.pointer (some ⟨r,0,none⟩),.pointer (some ⟨bp,0,none⟩)] w (zi5 33 (zch q ws) (fun _x (_:Unit)=>.tuple #[]) (fun x _=>PlP p x) (plAt yP p) B w):=by
 refine zby hB hA (vs:=[_,_]) Tryz.func115 rfl rfl (Nat.le_of_ble_eq_true rfl) ?_
 refine zbP ?_
 refine zac (zaa (gM ?_))
 refine gQ (zjB zxv rfl) ?_
 refine zbZ (res:=zfk opensW 1 ws) 0 zvS rfl rfl rfl (fun w B hF=>zsX r ws (some ⟨1,0,none⟩) 5 opensW 1 w B (fun k hk=>(hF.own k hk).2) hF.A (hF.rd hop) (by decide) (by decide) (by decide)) (fun k hk9=>?_) (fun x9 m9 hx9=>?_)
 ·
  exact zbG 1 rfl zdy (by rw [zch,hk9]; first | done | rfl)
 refine gQ (zaI rfl (ztn _)) ?_
 refine zaG rfl rfl (zaL tf98 (zs:=[_,_,_,_,_]) rfl) fun b3=>?_
 refine zaA 0 tf98 rfl rfl (vs:=[_,_,_,_,_]) rfl rfl rfl rfl rfl ?_
 refine zag (zae (T':=[(0,_),(1,_),(3,_)]) ⟨rfl,rfl,rfl,trivial⟩ ?_)
 refine zac (zaa (gM ?_))
 refine gQ (zab zhf rfl) ?_
 refine gQ (zab zji rfl) ?_
 refine gQ (zab zfe rfl) ?_
 refine gQ (zab zhg rfl) ?_
 refine zaG rfl rfl (zaD rfl (zts (b3,1) (b3,2) (b3,3) (b3,4)) zbj rfl) fun b16=>?_
 refine zao 1 rfl ?_
 refine zao 2 rfl ?_
 refine zbT 2 ?_
 refine zbZ (res:=zco 4 x9.2) 0 zpl rfl rfl rfl (fun w B hF=>zfl r x9.2 b3 [.int .u8 x9.1,.int .i64 0,.int .i64 0,.int .i64 0,.int .i64 0] 98 [1,2,3,4] [(b3,1),(b3,2),(b3,3),(b3,4)] _ _ w B (fun k hk=>(hF.own k hk).2) hF.A (zdX zbj (hF.other 0 rfl)) rfl (by intro o ho; simp at ho; simp; omega) (by simp [Small])) (fun k hk17=>?_) (fun x17 m17 hx17=>?_)
 ·
  exact zbG 2 rfl zdy (by rw [zch,hx9,zak,hk17]; first | done | rfl)
 refine zbP ?_
 refine za2 (R':=Box b3 [.int .u8 x9.1,.int .i64 ((x17.1).getD 0 0),.int .i64 (((x17.1.drop 1)).getD 0 0),.int .i64 ((((x17.1.drop 1).drop 1)).getD 0 0),.int .i64 (((((x17.1.drop 1).drop 1).drop 1)).getD 0 0)] 98) 1 rfl (fun B w hA=>hA) ?_
 refine zaK 2 rfl ?_
 refine zag (zae (T':=[(0,_),(1,_),(3,_)]) ⟨rfl,rfl,rfl,trivial⟩ ?_)
 refine zac (zaa (gM ?_))
 refine zbZ (res:=endE x17.2) 0 ztF rfl rfl rfl (fun w B hF=>ztK r x17.2 w B (fun k hk=>(hF.own k hk).2) hF.A) (fun k hk19=>?_) (fun x19 m19 hx19=>?_)
 ·
  exact zbG 2 rfl zdy (by rw [zch,hx9,zak,hx17,zak,hk19]; first | done | rfl)
 refine zag (zae (T':=[(1,_),(3,_)]) ⟨rfl,rfl,trivial⟩ ?_)
 refine zao 2 rfl ?_
 refine zgq fun sa sc S wa wc V hS hV=>?_
 have hlS:S.length=q.S.length:=by rw [←hS,List.length_map]
 have hlV:V.length=q.V.length:=by rw [←hV,List.length_map]
 have hq20:=hq.ls
 have hq50:=hq.lv
 refine zac (zac (zaa (gk_y rfl rfl (zbW zg6 rfl (fun _ hw=>zaQ (Rd.has hb hw) rfl)) ?_)))
 refine gQ (zbx rfl) ?_
 refine gQ (zab zd7 rfl) ?_
 refine gQ (zah 0 tf29 rfl rfl rfl) ?_
 refine gQ (zaV (Tryz.underlying29) rfl) ?_
 refine gQ (zbL rfl rfl) ?_
 refine zag (zae (T':=[(1,_),(3,_),(25,_)]) ⟨rfl,rfl,rfl,trivial⟩ ?_)
 refine zap rfl (fun hc25=>?_) (fun hc25=>?_)
 ·have h25:q.V.length=0:=by have:=of_decide_eq_true hc25; omega
  refine zaa (zcg en91 rfl (fun w hw=>zdk _ w) ?_)
  exact zbG 0 rfl (zeb (y:=yP)) (by rw [zch,hx9,zak,hx17,zak,hx19,zak]; exact if_pos h25)
 ·have h25:¬ q.V.length=0:=by have:=of_decide_eq_false hc25; omega
  refine zaq (zac (zbb 12 (fun _=>mixed) (by kernel_rfl) ?_))
  refine ph_y (zbW zg6 rfl (fun _ hw=>zaQ (Rd.has hb hw) rfl)) ?_
  refine ph_y (zbx rfl) ?_
  refine ph_y (zab zd7 rfl) ?_
  refine ph_y (zah 0 tf29 rfl rfl rfl) ?_
  refine ph_y (zbW zg6 rfl (fun _ hw=>zaQ (Rd.has hb hw) rfl)) ?_
  refine ph_y (zbx rfl) ?_
  refine ph_y (zab zd7 rfl) ?_
  refine ph_y (zah 0 tf29 rfl rfl rfl) ?_
  refine ph_y (zaV (Tryz.underlying29) rfl) ?_
  refine ph_y (zfV rfl rfl (by omega) (by omega)) ?_
  refine ph_y (zaE se29 rfl rfl (fun _ hw=>(zam zbo (hw.has (p:=3) rfl))) (by omega) (by omega)) ?_
  refine ph_y (zad rfl) ?_
  refine zag (zae (T':=[(1,_),(3,_),(4,_)]) ⟨rfl,rfl,rfl,trivial⟩ ?_)
  have hi0:((V.length:Int) - 1).toNat+1=V.length:=by omega
  refine zac (zf3 (ch [(11,Nat)]) 14 [0,1,3,0,8,24,56,127,255,511,511,0,3071,8191] (fun _=>mixed) (by kernel_rfl) (zjK _ ⟨inferInstance,trivial⟩) ?_)
  refine zbD (fun ρ=>zbW zg6 rfl (fun _ hw=>zaQ (Rd.has hb hw) rfl)) (fun ρ ρ' h=>by rfl) ?_
  refine zbD (fun ρ=>zbx rfl) (fun ρ ρ' h=>by rfl) ?_
  refine zbD (fun ρ=>zat 0 tf31 rfl rfl (vs:=[_,_]) rfl rfl) (fun ρ ρ' h=>by rfl) ?_
  refine zbD (fun ρ=>zaf rfl) (fun ρ ρ' h=>by rfl) ?_
  refine zbD (fun ρ=>zeP rfl (fun w hw=>zaO (i:=((V.length:Int) - 1)) (zam zbo (hw.has (p:=3) rfl)) (by omega) (by omega))) (fun ρ ρ' h=>by rfl) ?_
  refine zbD (fun ρ=>zbh zni rfl (fun w hw=>zaO (i:=((V.length:Int) - 1)) (zam zbo (hw.has (p:=3) rfl)) (by omega) (by omega))) (fun ρ ρ' h=>by rfl) ?_
  refine zbD (fun ρ=>zbn tf9 rfl (fun _ hw=>(zam zbo (hw.has (p:=3) rfl))) (by omega) (by omega) rfl) (fun ρ ρ' h=>by rfl) ?_
  refine zbD (fun ρ=>zaJ en46 rfl (fun w hw=>zeu _ _ S _ _ _ ((V.getD (((V.length:Int) - 1)).toNat default).s.sheet) w (zam zbI (hw.has (p:=1) rfl)) (by unfold Small; omega))) (fun ρ ρ' h=>by rfl) ?_
  refine zbD (fun ρ=>zaf rfl) (fun ρ ρ' h=>by rfl) ?_
  refine zbD (fun ρ=>zaB rfl rfl) (fun ρ ρ' h=>by rfl) ?_
  refine zbD (fun ρ=>zaB rfl rfl) (fun ρ ρ' h=>by rfl) ?_
  refine zgB (fun ρ=>zaL tf41 (zs:=[_,_,_,_,_,_,_,_,_,_,_,_,_,_,_,_,_,_,_,_]) rfl) (fun ρ ρ' h=>⟨by rfl,by rfl⟩) ?_
  refine zlr (R:=fun ρ=>Box (ρ 11) [.string ⟨#[]⟩,.int .i64 0,.int .i64 0,.int .i64 0,.int .i64 0,.slice none 0 0,.int .i64 0,.int .i64 0,.int .i64 0,.int .i64 0,.int .i64 0,.int .i64 0,.int .i64 0,.int .u8 0,.int .i64 0,.int .i64 0,.int .i64 0,.int .i64 0,.int .i64 0,.int .i64 0] 41) (A:=fun ρ=>Box (ρ 11) [.string (zav S ((V.getD (((V.length:Int) - 1)).toNat default).s.sheet)).s.name,.int .i64 ((zav S ((V.getD (((V.length:Int) - 1)).toNat default).s.sheet)).s.base),.int .i64 ((zav S ((V.getD (((V.length:Int) - 1)).toNat default).s.sheet)).s.batter),.int .i64 ((zav S ((V.getD (((V.length:Int) - 1)).toNat default).s.sheet)).s.height),.int .i64 ((zav S ((V.getD (((V.length:Int) - 1)).toNat default).s.sheet)).s.skin),.slice (zav S ((V.getD (((V.length:Int) - 1)).toNat default).s.sheet)).a (zav S ((V.getD (((V.length:Int) - 1)).toNat default).s.sheet)).s.heights.length (zav S ((V.getD (((V.length:Int) - 1)).toNat default).s.sheet)).cap,.int .i64 ((zav S ((V.getD (((V.length:Int) - 1)).toNat default).s.sheet)).s.least),.int .i64 ((zav S ((V.getD (((V.length:Int) - 1)).toNat default).s.sheet)).s.lap),.int .i64 ((zav S ((V.getD (((V.length:Int) - 1)).toNat default).s.sheet)).s.run),.int .i64 ((zav S ((V.getD (((V.length:Int) - 1)).toNat default).s.sheet)).s.every),.int .i64 ((zav S ((V.getD (((V.length:Int) - 1)).toNat default).s.sheet)).s.at_),.int .i64 ((zav S ((V.getD (((V.length:Int) - 1)).toNat default).s.sheet)).s.footing),.int .i64 ((zav S ((V.getD (((V.length:Int) - 1)).toNat default).s.sheet)).s.spread),.int .u8 (zav S ((V.getD (((V.length:Int) - 1)).toNat default).s.sheet)).s.cope,.int .i64 ((zav S ((V.getD (((V.length:Int) - 1)).toNat default).s.sheet)).s.tall),.int .i64 ((zav S ((V.getD (((V.length:Int) - 1)).toNat default).s.sheet)).s.short),.int .i64 ((zav S ((V.getD (((V.length:Int) - 1)).toNat default).s.sheet)).s.thick),.int .i64 ((zav S ((V.getD (((V.length:Int) - 1)).toNat default).s.sheet)).s.low),.int .i64 ((zav S ((V.getD (((V.length:Int) - 1)).toNat default).s.sheet)).s.high),.int .i64 ((zav S ((V.getD (((V.length:Int) - 1)).toNat default).s.sheet)).s.rood)] 41) 11 rfl rfl (fun _=>rfl) (fun ρ=>zex tf41 rfl rfl (vs:=[_,_,_,_,_,_,_,_,_,_,_,_,_,_,_,_,_,_,_,_]) rfl rfl rfl rfl rfl) (fun ρ ρ' h=>by(first | rfl | simp only [h 11 rfl])) ?_
  refine zbD (fun ρ=>zad rfl) (fun ρ ρ' h=>by rfl) ?_
  refine fun ρ=>zag (zf4 (X:=Nat) (ρ 11) (fun b5=>[(3,.pointer (some ⟨b3,0,none⟩)),(4,(epx wa (((V.length:Int) - 1).toNat*4))),(5,.pointer (some ⟨b5,0,none⟩))]) (fun b5=>[Box b5 [.string (zav S ((V.getD (((V.length:Int) - 1)).toNat default).s.sheet)).s.name,.int .i64 ((zav S ((V.getD (((V.length:Int) - 1)).toNat default).s.sheet)).s.base),.int .i64 ((zav S ((V.getD (((V.length:Int) - 1)).toNat default).s.sheet)).s.batter),.int .i64 ((zav S ((V.getD (((V.length:Int) - 1)).toNat default).s.sheet)).s.height),.int .i64 ((zav S ((V.getD (((V.length:Int) - 1)).toNat default).s.sheet)).s.skin),.slice (zav S ((V.getD (((V.length:Int) - 1)).toNat default).s.sheet)).a (zav S ((V.getD (((V.length:Int) - 1)).toNat default).s.sheet)).s.heights.length (zav S ((V.getD (((V.length:Int) - 1)).toNat default).s.sheet)).cap,.int .i64 ((zav S ((V.getD (((V.length:Int) - 1)).toNat default).s.sheet)).s.least),.int .i64 ((zav S ((V.getD (((V.length:Int) - 1)).toNat default).s.sheet)).s.lap),.int .i64 ((zav S ((V.getD (((V.length:Int) - 1)).toNat default).s.sheet)).s.run),.int .i64 ((zav S ((V.getD (((V.length:Int) - 1)).toNat default).s.sheet)).s.every),.int .i64 ((zav S ((V.getD (((V.length:Int) - 1)).toNat default).s.sheet)).s.at_),.int .i64 ((zav S ((V.getD (((V.length:Int) - 1)).toNat default).s.sheet)).s.footing),.int .i64 ((zav S ((V.getD (((V.length:Int) - 1)).toNat default).s.sheet)).s.spread),.int .u8 (zav S ((V.getD (((V.length:Int) - 1)).toNat default).s.sheet)).s.cope,.int .i64 ((zav S ((V.getD (((V.length:Int) - 1)).toNat default).s.sheet)).s.tall),.int .i64 ((zav S ((V.getD (((V.length:Int) - 1)).toNat default).s.sheet)).s.short),.int .i64 ((zav S ((V.getD (((V.length:Int) - 1)).toNat default).s.sheet)).s.thick),.int .i64 ((zav S ((V.getD (((V.length:Int) - 1)).toNat default).s.sheet)).s.low),.int .i64 ((zav S ((V.getD (((V.length:Int) - 1)).toNat default).s.sheet)).s.high),.int .i64 ((zav S ((V.getD (((V.length:Int) - 1)).toNat default).s.sheet)).s.rood)] 41,Box p [.slice sa S.length sc,.slice wa V.length wc] 31,Row sa 20 sc 41 zbH S,Go.K.Rows (rowH 3) S,Row wa 4 wc 94 zbS V,Go.K.Rows (rowO 98) V,Rdr 161 r x19.2,Box b3 [.int .u8 x9.1,.int .i64 ((x17.1).getD 0 0),.int .i64 (((x17.1.drop 1)).getD 0 0),.int .i64 ((((x17.1.drop 1).drop 1)).getD 0 0),.int .i64 (((((x17.1.drop 1).drop 1).drop 1)).getD 0 0)] 98]) ⟨rfl,rfl,rfl,trivial⟩ rfl ?_)
  rintro b5
  refine zao 5 rfl ?_
  refine za2 (R':=SepR [Go.K.Rows (rowO 98) (V.take ((V.length:Int) - 1).toNat),Row (V.getD ((V.length:Int) - 1).toNat default).a 5 (V.getD ((V.length:Int) - 1).toNat default).cap 98 zba (V.getD ((V.length:Int) - 1).toNat default).s.opens]) 0 rfl (fun B w hA=>zot (f:=rowO 98) hi0 hA) ?_
  refine zbP ?_
  have hlo:=(zmh hq hV hi0).1
  refine zac (zjX (V:=fun z=>.slice z.1 (((V.getD ((V.length:Int) - 1).toNat default).s.opens++[(⟨x9.1,((x17.1).getD 0 0),(((x17.1.drop 1)).getD 0 0),((((x17.1.drop 1).drop 1)).getD 0 0),(((((x17.1.drop 1).drop 1).drop 1)).getD 0 0)⟩:Opn)])).length z.2) (R':=fun z:Option Addr×Nat=>Row z.1 5 z.2 98 zba ((V.getD ((V.length:Int) - 1).toNat default).s.opens++[(⟨x9.1,((x17.1).getD 0 0),(((x17.1.drop 1)).getD 0 0),((((x17.1.drop 1).drop 1)).getD 0 0),(((((x17.1.drop 1).drop 1).drop 1)).getD 0 0)⟩:Opn)])) (Bad:=fun _=>False) 7 [0] 1 56 (fun _=>mixed) rfl rfl (by kernel_rfl) rfl (fun _ hb=>hb.elim) rfl ?_)
  refine zcf (zaf rfl) ?_
  refine zcf (zaf rfl) ?_
  refine zcf (zeP rfl (fun w hw=>zaO (i:=((V.length:Int) - 1)) (zam zbo (hw.has (p:=6) rfl)) (by omega) (by omega))) ?_
  refine zcf (zbh zhe rfl (fun w hw=>zaO (i:=((V.length:Int) - 1)) (zam zbo (hw.has (p:=6) rfl)) (by omega) (by omega))) ?_
  refine zcf (zbn tf92 rfl (fun _ hw=>(zam zbo (hw.has (p:=6) rfl))) (by omega) (by omega) rfl) ?_
  refine zcf (zat 8 tf98 rfl rfl (vs:=[_,_,_,_,_]) rfl rfl) ?_
  refine zqp (zaD rfl (zo2 _ _ _ _ _) encOpn_ok rfl) ?_
  refine⟨fun b55=>zhN (m:=[(⟨x9.1,((x17.1).getD 0 0),(((x17.1.drop 1)).getD 0 0),((((x17.1.drop 1).drop 1)).getD 0 0),(((((x17.1.drop 1).drop 1).drop 1)).getD 0 0)⟩:Opn)]) af92 encOpn_ok rfl rfl (fun _ hw=>(zam encOpn_ok (hw.has (p:=0) rfl))) (by first | omega | (simp only [List.length_cons,List.length_nil]; omega)) (by first | (unfold maxLen; omega) | (simp only [List.length_cons,List.length_nil,maxLen]; omega)),?_⟩
  intro z56
  intro b55
  refine zae (T':=[(4,_),(5,_),(49,_),(56,_)]) ⟨rfl,rfl,rfl,rfl,trivial⟩ ?_
  refine gQ (zeP rfl (fun w hw=>zaO (i:=((V.length:Int) - 1)) (zam zbo (hw.has (p:=7) rfl)) (by omega) (by omega))) ?_
  refine gQ (zbh zhe rfl (fun w hw=>zaO (i:=((V.length:Int) - 1)) (zam zbo (hw.has (p:=7) rfl)) (by omega) (by omega))) ?_
  refine zfG (x':=(⟨more (V.getD (((V.length:Int) - 1)).toNat default).s (⟨x9.1,(x17.1).getD 0 0,((x17.1).drop 1).getD 0 0,(((x17.1).drop 1).drop 1).getD 0 0,((((x17.1).drop 1).drop 1).drop 1).getD 0 0⟩:Opn),z56.1,z56.2⟩:WlC)) 7 zbo tf92 rfl rfl (vs:=[_]) rfl rfl (by decide) rfl rfl (by omega) (by omega) ?_
  refine zag (zae (T':=[(4,_),(5,_)]) ⟨rfl,rfl,trivial⟩ ?_)
  have hY:((V.set ((V.length:Int) - 1).toNat (⟨more (V.getD ((V.length:Int) - 1).toNat default).s (⟨x9.1,(x17.1).getD 0 0,((x17.1).drop 1).getD 0 0,(((x17.1).drop 1).drop 1).getD 0 0,((((x17.1).drop 1).drop 1).drop 1).getD 0 0⟩:Opn),z56.1,z56.2⟩:WlC)).getD ((V.length:Int) - 1).toNat default)=⟨more (V.getD ((V.length:Int) - 1).toNat default).s (⟨x9.1,(x17.1).getD 0 0,((x17.1).drop 1).getD 0 0,(((x17.1).drop 1).drop 1).getD 0 0,((((x17.1).drop 1).drop 1).drop 1).getD 0 0⟩:Opn),z56.1,z56.2⟩:=zwj hi0 _
  have hlN:(V.set ((V.length:Int) - 1).toNat (⟨more (V.getD ((V.length:Int) - 1).toNat default).s (⟨x9.1,(x17.1).getD 0 0,((x17.1).drop 1).getD 0 0,(((x17.1).drop 1).drop 1).getD 0 0,((((x17.1).drop 1).drop 1).drop 1).getD 0 0⟩:Opn),z56.1,z56.2⟩:WlC)).length=V.length:=List.length_set
  refine zac (zbb 6 (fun _=>mixed) (by kernel_rfl) ?_)
  refine ph_y (zaf rfl) ?_
  refine ph_y (zeP rfl (fun w hw=>zaO (i:=((V.length:Int) - 1)) (zam zbo (hw.has (p:=7) rfl)) (by omega) (by omega))) ?_
  refine ph_y (zbv (vs:=[_,_,_,_]) tf94 rfl (fun _ hw=>(zam zbo (hw.has (p:=7) rfl))) (by omega) (by omega) rfl) ?_
  refine ph_y (zat 3 tf41 rfl rfl (vs:=[_,_,_,_,_,_,_,_,_,_,_,_,_,_,_,_,_,_,_,_]) rfl rfl) ?_
  refine ph_y (zaJ en48 rfl (fun w hw=>zmI _ _ ((V.set ((V.length:Int) - 1).toNat (⟨more (V.getD ((V.length:Int) - 1).toNat default).s (⟨x9.1,(x17.1).getD 0 0,((x17.1).drop 1).getD 0 0,(((x17.1).drop 1).drop 1).getD 0 0,((((x17.1).drop 1).drop 1).drop 1).getD 0 0⟩:Opn),z56.1,z56.2⟩:WlC)).getD ((V.length:Int) - 1).toNat default).s _ _ (zav S (V.getD ((V.length:Int) - 1).toNat default).s.sheet).s w (by rw [hY]; exact(zam encOpn_ok (hw.has (p:=2) rfl))) (by rw [hY]; exact zcM (hw.has (p:=2) rfl)) (by rw [hY]; have:=(zmh hq hV hi0).1; unfold Small more; simp only [List.length_append,List.length_cons,List.length_nil]; omega) (by rw [hY]; exact zrI (zmh hq hV hi0).2 (zrC hx9 _ _ _ _)) (by rw [zf2,hS]; exact zqi hq _))) ?_
  refine ph_y (zbR rfl) ?_
  refine zag (zae (T':=[(64,_)]) ⟨rfl,trivial⟩ ?_)
  refine zao 2 rfl ?_
  refine zao 2 rfl ?_
  refine zbT 2 ?_
  refine za2 (R':=Go.K.Rows (rowO 98) (V.set ((V.length:Int) - 1).toNat (⟨more (V.getD ((V.length:Int) - 1).toNat default).s (⟨x9.1,(x17.1).getD 0 0,((x17.1).drop 1).getD 0 0,(((x17.1).drop 1).drop 1).getD 0 0,((((x17.1).drop 1).drop 1).drop 1).getD 0 0⟩:Opn),z56.1,z56.2⟩:WlC))) 0 rfl (fun B w hA=>zqF (f:=rowO 98) hi0 hA) ?_
  refine za2 (R':=Box p [.slice sa S.length sc,.slice wa (V.set ((V.length:Int) - 1).toNat (⟨more (V.getD ((V.length:Int) - 1).toNat default).s (⟨x9.1,(x17.1).getD 0 0,((x17.1).drop 1).getD 0 0,(((x17.1).drop 1).drop 1).getD 0 0,((((x17.1).drop 1).drop 1).drop 1).getD 0 0⟩:Opn),z56.1,z56.2⟩:WlC)).length wc] 31) 3 rfl (fun B w hA=>by rw [hlN]; exact hA) ?_
  refine zao 6 rfl ?_
  refine zao 6 rfl ?_
  refine zao 6 rfl ?_
  refine zao 6 rfl ?_
  refine zgU (y:=yP) (q:=⟨q.S,q.V.set (q.V.length - 1) (more (q.V.getD (q.V.length - 1) default) (⟨x9.1,(x17.1).getD 0 0,((x17.1).drop 1).getD 0 0,(((x17.1).drop 1).drop 1).getD 0 0,((((x17.1).drop 1).drop 1).drop 1).getD 0 0⟩:Opn))⟩) (hS) (zxy hV hi0 _ _ _) ?_
  rw [zf2,hS,hY,zsY hV hi0]
  refine zap rfl (fun hc64=>?_) (fun hc64=>?_)
  ·have h64:¬ zd1 (getS q.S (q.V.getD (q.V.length - 1) default).sheet).height (more (q.V.getD (q.V.length - 1) default) (⟨x9.1,(x17.1).getD 0 0,((x17.1).drop 1).getD 0 0,(((x17.1).drop 1).drop 1).getD 0 0,((((x17.1).drop 1).drop 1).drop 1).getD 0 0⟩:Opn))=true:=by simpa using hc64
   refine zaa (zcg en91 rfl (fun w hw=>zdk _ w) ?_)
   exact zbG 0 rfl zdy (by rw [zch,hx9,zak,hx17,zak,hx19,zak]; exact(if_neg h25).trans (if_neg h64))
  ·have h64:zd1 (getS q.S (q.V.getD (q.V.length - 1) default).sheet).height (more (q.V.getD (q.V.length - 1) default) (⟨x9.1,(x17.1).getD 0 0,((x17.1).drop 1).getD 0 0,(((x17.1).drop 1).drop 1).getD 0 0,((((x17.1).drop 1).drop 1).drop 1).getD 0 0⟩:Opn))=true:=by simpa using hc64
   refine zaq ?_
   exact zik ⟨q.S,q.V.set (q.V.length - 1) (more (q.V.getD (q.V.length - 1) default) (⟨x9.1,(x17.1).getD 0 0,((x17.1).drop 1).getD 0 0,(((x17.1).drop 1).drop 1).getD 0 0,((((x17.1).drop 1).drop 1).drop 1).getD 0 0⟩:Opn))⟩ () 0 (zcN rfl) rfl rfl (by rw [zch,hx9,zak,hx17,zak,hx19,zak]; exact(if_neg h25).trans (if_pos h64))
end Go.Proofs.YtdcfcfhmkfkgmaaGreatDoor
namespace Go.Proofs.YtdcfcfhmkfkgmaaGreatDoor
open Go.K Go.Stn Go.Pln Go.RowKit
theorem tf33:TF Tryz.prog 33 false 1 (.int IntKind.i64 0):=⟨by kernel_rfl,by kernel_rfl⟩
theorem zrJ:MT Tryz.prog 164 9 162 1 false (.nilFunc):=⟨Tryz.underlying164,Tryz.underlying9,⟨by kernel_rfl,by kernel_rfl⟩⟩
set_option maxRecDepth 100000 in
theorem zdn {c:Cx} (hP:c.P=Tryz.prog) {H:List Res} {b:Nat} {k0 k:Int} {w:World} (hw:Hp c.U c.w0 (Box b [.int .i64 k0] 33 :: H) w) :
  CallsDIn Fence.wide 0 c.P 87 [.pointer (some ⟨b,0,none⟩)].toArray (.panicking (thrC (errT 33 k))) w (fun e u' w'=>(∃ v,e=.returned v)∧settle u' = .returning∧Hp c.U c.w0 (Box b [.int .i64 k] 33 :: H) w'):=by
 rw [hP]
 refine CallsDIn.mono (zfR (c:=⟨none,Tryz.prog,11,c.U,c.w0⟩) (H':=Box b [.int .i64 k] 33 :: H) (vs:=[_]) rfl Tryz.func87 rfl rfl (Nat.le_of_ble_eq_true rfl) (Nat.le_of_ble_eq_true rfl) (fun c₀ cs h=>.inl (zor c₀ cs h)) hw ?_) ?_
 ·refine zas ?_
  refine zac (zaa (gk_y rfl rfl (zjA (by first | exact Tryz.underlying20 | kernel_rfl) rfl (.inr ⟨_,_,rfl⟩)) ?_))
  refine zag (zae (T':=[(0,_),(4,_),(6,_)]) ⟨rfl,rfl,rfl,trivial⟩ ?_)
  refine zd8 rfl ?_
  refine zac (zaa (gk_y rfl rfl (zlN if33 rfl) ?_))
  refine gQ (zaB rfl rfl) ?_
  refine gQ (zaB rfl rfl) ?_
  refine zag (zae (T':=[(0,_),(8,_),(9,_)]) ⟨rfl,rfl,rfl,trivial⟩ ?_)
  refine zdg rfl ?_
  refine zac (zaa (gA ?_))
  refine zag (zae (T':=[(0,_),(2,_)]) ⟨rfl,rfl,trivial⟩ ?_)
  refine zaa (gM ?_)
  refine zaA 0 tf33 rfl rfl (vs:=[_]) rfl rfl rfl rfl rfl ?_
  refine zag ?_
  exact zvZ (zcN rfl)
 ·rintro e u w' ⟨h1,rfl,h3⟩
  exact⟨h1,zov,h3⟩
set_option maxRecDepth 100000 in
theorem zgX {c:Cx} (hP:c.P=Tryz.prog) {H:List Res} {b:Nat} {w:World} (hw:Hp c.U c.w0 H w) :
  CallsDIn Fence.wide 0 c.P 87 [.pointer (some ⟨b,0,none⟩)].toArray .returning w (fun e u' w'=>(∃ v,e=.returned v)∧settle u' = .returning∧Hp c.U c.w0 H w'):=by
 rw [hP]
 refine CallsDIn.mono (zfR (c:=⟨none,Tryz.prog,11,c.U,c.w0⟩) (H':=H) (vs:=[_]) rfl Tryz.func87 rfl rfl (Nat.le_of_ble_eq_true rfl) (Nat.le_of_ble_eq_true rfl) (fun c₀ cs h=>.inr ⟨zkk c₀ cs h,rfl,rfl⟩) hw ?_) ?_
 ·refine zas ?_
  refine zac (zaa (gk_y rfl rfl (zjA (by first | exact Tryz.underlying20 | kernel_rfl) rfl (.inl rfl)) ?_))
  refine zag (zae (T':=[(0,_),(4,_),(6,_)]) ⟨rfl,rfl,rfl,trivial⟩ ?_)
  refine zdg rfl ?_
  refine zaa (gA ?_)
  refine zag ?_
  exact zvZ (zcN rfl)
 ·rintro e u w' ⟨h1,rfl,h3⟩
  exact⟨h1,rfl,h3⟩
def zeR (b:Nat):List (ByteArray×Value):=[(⟨#[115,104,101,101,116]⟩,.func (.func 109) #[] #[.pointer (some ⟨b,0,none⟩)]),(⟨#[119,97,108,108]⟩,.func (.func 112) #[] #[.pointer (some ⟨b,0,none⟩)]),(⟨#[111,112,101,110]⟩,.func (.func 115) #[] #[.pointer (some ⟨b,0,none⟩)])]
abbrev zsz (z:Nat×Nat) (p:Nat):Res:=SepR [MapR z.1 (zeR z.2),Box z.2 [.pointer (some ⟨p,0,none⟩)] 157]
set_option maxRecDepth 100000 in
set_option maxHeartbeats 1000000 in
theorem ztV (p:Nat) (w:World)  :
  Calls Tryz.prog 89 #[.pointer (some ⟨p,0,none⟩)] w (zcU (fun z:Nat×Nat=>.map (some z.1)) (fun z=>zsz z p) w):=by
 refine zan (vs:=[_]) Tryz.func89 rfl rfl (Nat.le_of_ble_eq_true rfl) ?_
 refine zac (zaa (zaG rfl rfl (za3 (vs:=[_]) rfl rfl) fun b1=>?_))
 refine gA ?_
 refine zag (zae (T':=[(1,_),(2,_)]) ⟨rfl,rfl,trivial⟩ ?_)
 refine zac (zaa (zaG rfl rfl (zmM) fun b3=>?_))
 refine gQ (zbO («as»:=[]) (bs:=[_]) rfl rfl) ?_
 refine zig 0 zrJ rfl rfl rfl rfl (by rfl) ?_
 refine gQ (zbO («as»:=[]) (bs:=[_]) rfl rfl) ?_
 refine zig 0 zrJ rfl rfl rfl rfl (by show mget [_] _=none; rw [mget,if_neg (show ¬ ((⟨#[119,97,108,108]⟩:ByteArray) == ⟨#[115,104,101,101,116]⟩)=true by decide)]; rfl) ?_
 refine gQ (zbO («as»:=[]) (bs:=[_]) rfl rfl) ?_
 refine zig 0 zrJ rfl rfl rfl rfl (by show mget [_,_] _=none; rw [mget,if_neg (show ¬ ((⟨#[111,112,101,110]⟩:ByteArray) == ⟨#[115,104,101,101,116]⟩)=true by decide),mget,if_neg (show ¬ ((⟨#[111,112,101,110]⟩:ByteArray) == ⟨#[119,97,108,108]⟩)=true by decide)]; rfl) ?_
 refine gM ?_
 refine gA ?_
 refine zag (zae (T':=[(2,_)]) ⟨rfl,trivial⟩ ?_)
 refine zao 1 rfl ?_
 refine zao 1 rfl ?_
 refine zbT 2 ?_
 refine za2 (R':=zsz (b3,b1) p) 0 rfl (fun B w hA=>hA) ?_
 refine zaw ?_
 exact zbd (b3,b1) 0 (zaC rfl (zau rfl)) rfl rfl
end Go.Proofs.YtdcfcfhmkfkgmaaGreatDoor
namespace Go.Proofs.YtdcfcfhmkfkgmaaGreatDoor
open Go.K Go.Stn Go.Pln Go.RowKit
theorem en87:En Tryz.prog 87:=za7 Tryz.func87 (by kernel_rfl) (by kernel_rfl)
theorem en88:En Tryz.prog 88:=za7 Tryz.func88 (by kernel_rfl) (by kernel_rfl)
theorem en89:En Tryz.prog 89:=za7 Tryz.func89 (by kernel_rfl) (by kernel_rfl)
theorem zw2:En Tryz.prog 109:=za7 Tryz.func109 (by kernel_rfl) (by kernel_rfl)
theorem zw4:En Tryz.prog 112:=za7 Tryz.func112 (by kernel_rfl) (by kernel_rfl)
theorem zw5:En Tryz.prog 115:=za7 Tryz.func115 (by kernel_rfl) (by kernel_rfl)
theorem zrb (x0a:Option Addr) (x0n x0c:Nat) (w:World):(Instr.build 161 #[(0,.slice x0a x0n x0c)]).run Tryz.prog w=.ok (.agg #[.slice x0a x0n x0c]) w:=by kernel_rfl
theorem zgv {p:Nat} {q:Plan} {t:ByteArray} {P:Program} {n:Nat} {w w':World} {B:Nat→Prop} {H:List Res} {k:Int} {R:Res} (i:Nat) (hi:H[i]?=some R) (hR:∀ B w,R.A B w→(plAt yP p).A B w) (he:zcu q t=.error k) (hw:Hp (cxB P n w B).U (cxB P n w B).w0 H w') :
  zho (fun _:Unit=>.int .i64 (zkJ (zcu q t))) (fun _=>plOr yP p (zcu q t)) (fun _=>True) B w (.returned (.int .i64 k)) w':=by
 rw [he]
 obtain⟨B',h1,h2,_,h3⟩:=zet hw hi
 exact⟨(),B',rfl,trivial,h1,h2,hR _ _ h3⟩
theorem zmi {p:Nat} {q q':Plan} {t:ByteArray} {P:Program} {n:Nat} {w w':World} {B:Nat→Prop} {H:List Res} {i:Nat} (he:zcu q t=.ok q') (hw:Hp (cxB P n w B).U (cxB P n w B).w0 H w') (hi:H[i]?=some (PlE yP p q')) :
  zho (fun _:Unit=>.int .i64 (zkJ (zcu q t))) (fun _=>plOr yP p (zcu q t)) (fun _=>True) B w (.returned (.int .i64 0)) w':=by
 rw [he]
 obtain⟨B',h1,h2,_,h3⟩:=zet hw hi
 exact⟨(),B',rfl,trivial,h1,h2,h3⟩
theorem zmd {b:Nat} {u:ByteArray} (h:(mget (zeR b) u).isSome=true) :
  ((u == ⟨#[115,104,101,101,116]⟩)=true∧mget (zeR b) u=some (.func (.func 109) #[] #[.pointer (some ⟨b,0,none⟩)]))∨(¬ (u == ⟨#[115,104,101,101,116]⟩)=true∧(u == ⟨#[119,97,108,108]⟩)=true∧mget (zeR b) u=some (.func (.func 112) #[] #[.pointer (some ⟨b,0,none⟩)])) ∨
  (¬ (u == ⟨#[115,104,101,101,116]⟩)=true∧¬ (u == ⟨#[119,97,108,108]⟩)=true∧(u == ⟨#[111,112,101,110]⟩)=true∧mget (zeR b) u=some (.func (.func 115) #[] #[.pointer (some ⟨b,0,none⟩)])):=by
 unfold zeR mget mget mget mget at *
 by_cases h1:(u == ⟨#[115,104,101,101,116]⟩)=true
 ·exact .inl ⟨h1,if_pos h1⟩
 ·by_cases h2:(u == ⟨#[119,97,108,108]⟩)=true
  ·exact .inr (.inl ⟨h1,h2,(if_neg h1).trans (if_pos h2)⟩)
  ·by_cases h3:(u == ⟨#[111,112,101,110]⟩)=true
   ·exact .inr (.inr ⟨h1,h2,h3,(if_neg h1).trans ((if_neg h2).trans (if_pos h3))⟩)
   ·rw [if_neg h1,if_neg h2,if_neg h3] at h; cases h
theorem zmc {b:Nat} {q:Plan} {u:ByteArray} {ws:List ByteArray} (h:(mget (zeR b) u).isSome=false):zff q u ws=.error 4:=by
 unfold zeR mget mget mget mget at h
 unfold zff
 by_cases h1:(u == ⟨#[115,104,101,101,116]⟩)=true
 ·rw [if_pos h1] at h; cases h
 ·by_cases h2:(u == ⟨#[119,97,108,108]⟩)=true
  ·rw [if_neg h1,if_pos h2] at h; cases h
  ·by_cases h3:(u == ⟨#[111,112,101,110]⟩)=true
   ·rw [if_neg h1,if_neg h2,if_pos h3] at h; cases h
   ·rw [if_neg h1,if_neg h2,if_neg h3]
set_option maxRecDepth 100000 in
set_option maxHeartbeats 8000000 in
theorem zv6 (p:Nat) (q:Plan) (t:ByteArray) (w:World) (B:Nat→Prop) (hB:∀ k,B k→k < w.heap.size) (hA:(PlP p q).A B w) (hq:OkQ q) (ht:t.size≤40000) (hmx:Rd (fun k=>k < w.heap.size∧¬ B k) w (IntV 2)) (hcp:Rd (fun k=>k < w.heap.size∧¬ B k) w (zaW (some ⟨0,0,none⟩) 1 encS copesW)) (hop:Rd (fun k=>k < w.heap.size∧¬ B k) w (zaW (some ⟨1,0,none⟩) 1 encS opensW)) :
  Calls Tryz.prog 59 #[.pointer (some ⟨p,0,none⟩),.string t] w (zho (fun _:Unit=>.int .i64 (zkJ (zcu q t))) (fun _=>plOr yP p (zcu q t)) (fun _=>True) B w):=by
 refine zby hB hA (vs:=[_,_]) Tryz.func59 rfl rfl (Nat.le_of_ble_eq_true rfl) ?_
 refine zac (zaa (zaG rfl rfl (zaL tf33 (zs:=[_]) rfl) fun b4=>?_))
 refine zag (zae (T':=[(0,_),(1,_),(4,_)]) ⟨rfl,rfl,rfl,trivial⟩ ?_)
 refine zac (zaa (gk_y rfl rfl (zbO («as»:=[]) (bs:=[_]) rfl rfl) ?_))
 refine zru (cap:=[_]) rfl rfl rfl ?_
 refine zag (zae (T':=[(0,_),(1,_),(4,_)]) ⟨rfl,rfl,rfl,trivial⟩ ?_)
 refine zac (zaa (gM ?_))
 refine zaG rfl rfl (zbm en88 rfl (fun w hw=>zuJ t 32 w (by omega) (Rd.has hmx hw))) fun b10=>?_
 refine gQ (zaI rfl (zrb _ _ _)) ?_
 refine zaG rfl rfl (za3 (vs:=[_]) rfl rfl) fun b12=>?_
 refine gA ?_
 refine zag (zae (T':=[(0,_),(4,_),(5,_)]) ⟨rfl,rfl,rfl,trivial⟩ ?_)
 refine zao 1 rfl ?_
 refine za2 (R':=zaW (some ⟨b10,0,none⟩) 1 encS (zcn t 32)) 0 rfl (fun B w hA=>Row.elems ztJ hA) ?_
 refine zao 1 rfl ?_
 refine zeH (Nat.le_refl _) ?_
 refine zac (zaa (gM ?_))
 refine zaG rfl rfl (zbm en89 rfl (fun w hw=>ztV p w)) fun m15=>?_
 refine gM ?_
 refine zbZ (res:=zdp (zcn t 32)) 1 en90 rfl rfl rfl (fun w B hF=>zli b12 (zcn t 32) w B (fun k hk=>(hF.own k hk).2) hF.A) (fun k hk17=>?_) (fun x17 m17 hx17=>?_)
 ·
  refine zao 2 rfl ?_
  exact zfg (H':=Box b4 [.int .i64 k] 33 :: _) en87 (fun w hw=>zdn rfl hw) (zaC rfl (zcy (i:=0) tf33 rfl rfl rfl)) (fun w hw=>zgv 3 rfl zdy (by rw [zcu,hk17]; rfl) hw)
 refine zbP ?_
 refine gQ (zmL zrJ rfl rfl (fun _ hw=>hw.has (p:=0) rfl)) ?_
 refine gM ?_
 refine gQ (zaB rfl rfl) ?_
 refine gQ (zaB rfl rfl) ?_
 refine gA ?_
 refine gA ?_
 refine zag (zae (T':=[(4,_),(5,_),(6,_),(7,_)]) ⟨rfl,rfl,rfl,rfl,trivial⟩ ?_)
 have hws17:x17.2.length≤100000:=by have:=(zjw t 32).2; have:=zka hx17; omega
 refine zac (zac (zaa (gM ?_)))
 refine gQ (zbR rfl) ?_
 refine zag (zae (T':=[(4,_),(5,_),(6,_),(22,_)]) ⟨rfl,rfl,rfl,rfl,trivial⟩ ?_)
 refine zap rfl (fun hc22=>?_) (fun hc22=>?_)
 ·
  refine zaa (zcg en91 rfl (fun w hw=>zdk _ w) ?_)
  refine zao 3 rfl ?_
  exact zfg (H':=Box b4 [.int .i64 4] 33 :: _) en87 (fun w hw=>zdn rfl hw) (zaC rfl (zcy (i:=0) tf33 rfl rfl rfl)) (fun w hw=>zgv 4 rfl zdy (by rw [zcu,hx17,zak]; exact zmc (by simpa using hc22)) hw)
 ·have h22:(mget (zeR m15.2) x17.1).isSome=true:=by simpa using hc22
  rcases zmd h22 with ⟨hu,hm⟩ | ⟨hu0,hu,hm⟩ | ⟨hu0,hu1,hu,hm⟩
  ·
   refine zae (T':=[(4,_),(5,_),(6,.func (.func 109) #[] #[.pointer (some ⟨m15.2,0,none⟩)]),(22,_)]) ⟨rfl,rfl,(by show some ((mget (zeR m15.2) x17.1).getD _)=_; rw [hm]; rfl),rfl,trivial⟩ ?_
   refine zaq (zac (zaa (gM ?_)))
   refine gM ?_
   refine zao 4 rfl ?_
   refine zao 3 rfl ?_
   refine zbT 2 ?_
   refine zie (res:=zb3 q x17.2) (fs:=[]) (cap:=[_]) 0 zw2 rfl rfl rfl rfl (fun w B hF=>ztS b12 x17.2 p q m15.2 w B (fun k hk=>(hF.own k hk).2) hF.A hq (hF.other 1 rfl) hws17 (hF.rd hcp)) (fun k hk26=>?_) (fun x26 m26 hx26=>?_)
   ·
    refine zao 3 rfl ?_
    exact zfg (H':=Box b4 [.int .i64 k] 33 :: _) en87 (fun w hw=>zdn rfl hw) (zaC rfl (zcy (i:=0) tf33 rfl rfl rfl)) (fun w hw=>zgv 1 rfl zmt (by rw [zcu,hx17,zak,zff,if_pos hu]; exact hk26) hw)
   refine zag (zae (T':=[(4,_)]) ⟨rfl,trivial⟩ ?_)
   refine zac (zaa (zaA 3 tf33 rfl rfl (vs:=[_]) rfl rfl rfl rfl rfl ?_))
   refine zag (zae (T':=[(4,_)]) ⟨rfl,trivial⟩ ?_)
   refine zaw ?_
   exact zgW en87 (fun w hw=>zgX rfl hw) (zaC rfl (zcy (i:=3) tf33 rfl rfl rfl)) (fun w hw=>zmi (by rw [zcu,hx17,zak,zff,if_pos hu]; exact hx26) hw (i:=0) rfl)
  ·
   refine zae (T':=[(4,_),(5,_),(6,.func (.func 112) #[] #[.pointer (some ⟨m15.2,0,none⟩)]),(22,_)]) ⟨rfl,rfl,(by show some ((mget (zeR m15.2) x17.1).getD _)=_; rw [hm]; rfl),rfl,trivial⟩ ?_
   refine zaq (zac (zaa (gM ?_)))
   refine gM ?_
   refine zao 4 rfl ?_
   refine zao 3 rfl ?_
   refine zbT 2 ?_
   refine zie (res:=zb1 q x17.2) (fs:=[]) (cap:=[_]) 0 zw4 rfl rfl rfl rfl (fun w B hF=>ztT b12 x17.2 p q m15.2 w B (fun k hk=>(hF.own k hk).2) hF.A hq (hF.other 1 rfl) hws17) (fun k hk26=>?_) (fun x26 m26 hx26=>?_)
   ·
    refine zao 3 rfl ?_
    exact zfg (H':=Box b4 [.int .i64 k] 33 :: _) en87 (fun w hw=>zdn rfl hw) (zaC rfl (zcy (i:=0) tf33 rfl rfl rfl)) (fun w hw=>zgv 1 rfl zmt (by rw [zcu,hx17,zak,zff,if_neg hu0,if_pos hu]; exact hk26) hw)
   refine zag (zae (T':=[(4,_)]) ⟨rfl,trivial⟩ ?_)
   refine zac (zaa (zaA 3 tf33 rfl rfl (vs:=[_]) rfl rfl rfl rfl rfl ?_))
   refine zag (zae (T':=[(4,_)]) ⟨rfl,trivial⟩ ?_)
   refine zaw ?_
   exact zgW en87 (fun w hw=>zgX rfl hw) (zaC rfl (zcy (i:=3) tf33 rfl rfl rfl)) (fun w hw=>zmi (by rw [zcu,hx17,zak,zff,if_neg hu0,if_pos hu]; exact hx26) hw (i:=0) rfl)
  ·
   refine zae (T':=[(4,_),(5,_),(6,.func (.func 115) #[] #[.pointer (some ⟨m15.2,0,none⟩)]),(22,_)]) ⟨rfl,rfl,(by show some ((mget (zeR m15.2) x17.1).getD _)=_; rw [hm]; rfl),rfl,trivial⟩ ?_
   refine zaq (zac (zaa (gM ?_)))
   refine gM ?_
   refine zao 4 rfl ?_
   refine zao 3 rfl ?_
   refine zbT 2 ?_
   refine zie (res:=zch q x17.2) (fs:=[]) (cap:=[_]) 0 zw5 rfl rfl rfl rfl (fun w B hF=>ztU b12 x17.2 p q m15.2 w B (fun k hk=>(hF.own k hk).2) hF.A hq (hF.other 1 rfl) hws17 (hF.rd hop)) (fun k hk26=>?_) (fun x26 m26 hx26=>?_)
   ·
    refine zao 3 rfl ?_
    exact zfg (H':=Box b4 [.int .i64 k] 33 :: _) en87 (fun w hw=>zdn rfl hw) (zaC rfl (zcy (i:=0) tf33 rfl rfl rfl)) (fun w hw=>zgv 1 rfl zmt (by rw [zcu,hx17,zak,zff,if_neg hu0,if_neg hu1,if_pos hu]; exact hk26) hw)
   refine zag (zae (T':=[(4,_)]) ⟨rfl,trivial⟩ ?_)
   refine zac (zaa (zaA 3 tf33 rfl rfl (vs:=[_]) rfl rfl rfl rfl rfl ?_))
   refine zag (zae (T':=[(4,_)]) ⟨rfl,trivial⟩ ?_)
   refine zaw ?_
   exact zgW en87 (fun w hw=>zgX rfl hw) (zaC rfl (zcy (i:=3) tf33 rfl rfl rfl)) (fun w hw=>zmi (by rw [zcu,hx17,zak,zff,if_neg hu0,if_neg hu1,if_pos hu]; exact hx26) hw (i:=0) rfl)
end Go.Proofs.YtdcfcfhmkfkgmaaGreatDoor
namespace Go.Proofs.YtdcfcfhmkfkgmaaGreatDoor
open Go.K Go.Stn Go.Pln Go.RowKit
theorem en86:En Tryz.prog 86:=za7 Tryz.func86 (by kernel_rfl) (by kernel_rfl)
def numV:Int→List ByteArray→List (List Value)
 | _,[]=>[]
 | n,t :: r=>[.int .i64 n,.string t] :: numV (n+1) r
theorem zhz:∀ (n:Int) (l:List ByteArray),(numV n l).length=l.length
 | _,[]=>rfl
 | n,t :: r=>by rw [numV,List.length_cons,List.length_cons,zhz (n+1) r]
theorem zkc {u:ByteArray}:∀ {l:List ByteArray} {k:Int} {i:Nat},l[i]?=some u→(numV k l)[i]?=some [.int .i64 (k+i),.string u]
 | [],_,_,h=>by simp at h
 | t :: r,k,0,h=>by
  simp at h
  rw [numV,h]
  simp
 | t :: r,k,i+1,h=>by
  rw [List.getElem?_cons_succ] at h
  rw [numV,List.getElem?_cons_succ,zkc h,show k+1+(i:Int)=k+((i+1:Nat):Int) from by omega]
theorem zuk {n:Int} {l:List ByteArray} {u:ByteArray} (h1:1≤n) (h:l[(n - 1).toNat]?=some u):(numV 1 l)[(n - 1).toNat]?=some [.int .i64 n,.string u]:=by
 rw [zkc h,show 1+((n - 1).toNat:Int)=n from by omega]
theorem zkQ:∀ l:List ByteArray,(zfN l).length≤l.length
 | []=>Nat.le_refl _
 | [x]=>by rw [zfN]; split <;> simp
 | x :: y :: r=>by have:=zkQ (y :: r); rw [zfN,List.length_cons,List.length_cons]; omega
theorem zp5 (t:ByteArray):(zcb t).length≤t.size+1:=Nat.le_trans (zkQ _) (zjw t 10).2
theorem ze8 {u:ByteArray}:(u.toList == (⟨#[]⟩:ByteArray).toList)=true↔u.size=0:=by
 rw [Lib.toList_data,Lib.toList_data,beq_iff_eq]
 constructor
 ·intro h
  have:=congrArg List.length h
  rw [Array.length_toList] at this
  exact this
 ·intro h
  exact List.eq_nil_of_length_eq_zero (by rw [Array.length_toList]; exact h)
theorem ztx (s:ByteArray) (w:World) (hs:s.size < 4294967281) (hm:Has w (IntV 2)):Calls Tryz.prog 86 #[.string s,.string ⟨#[10]⟩] w (Pure (.tuple #[.string (cutA s),.string (cutB s),.bool (Lib.cut s.data.toList [10]).2.2]) w):=zww s _ w hs hm
set_option maxRecDepth 100000 in
set_option maxHeartbeats 1000000 in
theorem zrG (t:ByteArray) (b:Nat) (ht:t.size≤40000) :
  zu2 Tryz.prog 85 [.pointer (some ⟨b,0,none⟩)] (numV 1 (zcb t)) (Box b [.string t] 9) (IntV 2):=by
 intro X J Rl D y w B C x0 hB hC hA hO h0 hS hy
 have hnum:=zp5 t
 refine zby (B:=fun k=>B k∨C k) (fun k h=>h.elim (hB k) (fun h=>(hC k h).1)) (zsg hA hO (fun k h=>(hC k h).2)) (vs:=[_,_]) Tryz.func85 rfl rfl (Nat.le_of_ble_eq_true rfl) ?_
 have ins0:=zpY Tryz.prog Tryz.f85.ntmps w (fun k=>B k∨C k)
 refine zbP ?_
 refine zac (zaa (gA ?_))
 refine zag (zae (T':=[(0,_),(1,_),(3,_)]) ⟨rfl,rfl,rfl,trivial⟩ ?_)
 refine zas ?_
 refine zbf (X:=Int×ByteArray×X) (fun⟨n,u,x2⟩=>[(0,.func (.yield y) #[] #[]),(1,.pointer (some ⟨b,0,none⟩)),(3,.int .i64 n)]) (fun⟨n,u,x2⟩=>[J x2,Box b [.string u] 9]) (fun⟨n,u,x2⟩=>(1≤n∧zcb u=(zcb t).drop (n - 1).toNat∧(n - 1).toNat≤(zcb t).length∧u.size≤t.size∧Rl (n - 1).toNat x2)) (fun⟨n,u,x2⟩=>u.size) (1,t,x0) ⟨rfl,rfl,rfl,trivial⟩ rfl ?_ ?_
 ·exact⟨by omega,rfl,by simp,Nat.le_refl _,h0⟩
 ·rintro ⟨n,u,x2⟩ hI
  obtain⟨g0,g1,g2,g3,g4⟩:=hI
  refine zac (zac (zaa (gk_y rfl rfl (zah 1 tf9 rfl rfl rfl) ?_)))
  refine gQ (ziV rfl rfl) ?_
  refine zag (zae (T':=[(0,_),(1,_),(3,_),(8,_)]) ⟨rfl,rfl,rfl,rfl,trivial⟩ ?_)
  refine zap rfl (fun hc8=>?_) (fun hc8=>?_)
  ·have hu:u.size≠0:=fun h=>by rw [ze8.2 h] at hc8; exact Bool.noConfusion hc8
   refine zaq (zac (zas ?_))
   refine zac (zaa (gk_y rfl rfl (zah 1 tf9 rfl rfl rfl) ?_))
   refine gQ (zaJ en86 rfl (fun w hw=>ztx u w (by omega) (Rd.has hS hw))) ?_
   refine gM ?_
   refine gQ (zaB rfl rfl) ?_
   refine gQ (zaB rfl rfl) ?_
   refine gQ (zaB rfl rfl) ?_
   refine gA ?_
   refine gA ?_
   refine gA ?_
   refine zag (zae (T':=[(0,_),(1,_),(3,_),(4,_),(5,_)]) ⟨rfl,rfl,rfl,rfl,rfl,trivial⟩ ?_)
   refine zac (zac (zaa (gM ?_)))
   refine gM ?_
   refine gM ?_
   refine znl 0 ins0 rfl rfl rfl rfl (hy _ _ _ (zuk g0 (zgY g1 hu).2) g4) fun b20 x20 hp20=>?_
   refine gQ (zbR rfl) ?_
   refine zag (zae (T':=[(0,_),(1,_),(3,_),(5,_),(21,_)]) ⟨rfl,rfl,rfl,rfl,rfl,trivial⟩ ?_)
   refine zap rfl (fun hc21=>?_) (fun hc21=>?_)
   ·
    refine zaw (zd9 x20 0 (zcN rfl) rfl rfl (.inr (by have:=hp20; rwa [show b20=false from by simpa using hc21,if_neg Bool.false_ne_true] at this)))
   ·
    refine zaq (zaa (gM ?_))
    refine zaA 1 tf9 rfl rfl (vs:=[_]) rfl rfl rfl rfl rfl ?_
    refine zag (zae (T':=[(0,_),(1,_),(3,_)]) ⟨rfl,rfl,rfl,trivial⟩ ?_)
    refine zaa (gM ?_)
    refine gQ (zaY rfl rfl (by omega) (by omega)) ?_
    refine gA ?_
    refine zag (zae (T':=[(0,_),(1,_),(3,_)]) ⟨rfl,rfl,rfl,trivial⟩ ?_)
    exact za1 (n+1,cutB u,x20) ⟨rfl,rfl,rfl,trivial⟩ rfl ⟨by omega,by rw [show(n+1 - 1).toNat=(n - 1).toNat+1 from by omega]; exact(zgY g1 hu).1,by have:=(List.getElem?_eq_some_iff.1 (zgY g1 hu).2).1; omega,by have:=zkN hu; omega,by have:=hp20; rw [show b20=true from by simpa using hc21,if_pos rfl] at this; rwa [show(n+1 - 1).toNat=(n - 1).toNat+1 from by omega]⟩ (by have:=zkN hu; simp only []; omega)
  ·have hu:u.size=0:=ze8.1 (by simpa using hc8)
   refine za8 rfl ?_
   refine zd9 x2 0 (zcN rfl) rfl rfl (.inl (by rw [zhz,←zp3 g1 hu g2]; exact g4))
set_option maxRecDepth 100000 in
set_option maxHeartbeats 1000000 in
theorem zud (t:ByteArray) (w:World)  :
  Calls Tryz.prog 58 #[.string t] w (zcU (fun b:Nat=>.func (.func 85) #[] #[.pointer (some ⟨b,0,none⟩)]) (fun b=>Box b [.string t] 9) w):=by
 refine zan (vs:=[_]) Tryz.func58 rfl rfl (Nat.le_of_ble_eq_true rfl) ?_
 refine zac (zaa (zaG rfl rfl (za3 (vs:=[_]) rfl rfl) fun b1=>?_))
 refine gA ?_
 refine zag (zae (T':=[(1,_),(2,_)]) ⟨rfl,rfl,trivial⟩ ?_)
 refine zac (zaa (gk_y rfl rfl (zbO («as»:=[]) (bs:=[_]) rfl rfl) ?_))
 refine gA ?_
 refine zag (zae (T':=[(2,_)]) ⟨rfl,trivial⟩ ?_)
 refine zaw (zbd b1 0 (zaC rfl (zau rfl)) ?_ rfl)
 rfl
end Go.Proofs.YtdcfcfhmkfkgmaaGreatDoor
namespace Go.Proofs.YtdcfcfhmkfkgmaaGreatDoor
open Go.K Go.Stn Go.Pln Go.RowKit
theorem en58:En Tryz.prog 58:=za7 Tryz.func58 (by kernel_rfl) (by kernel_rfl)
theorem en59:En Tryz.prog 59:=za7 Tryz.func59 (by kernel_rfl) (by kernel_rfl)
theorem en85:En Tryz.prog 85:=za7 Tryz.func85 (by kernel_rfl) (by kernel_rfl)
theorem zu9  (w:World):(Instr.build 31 #[]).run Tryz.prog w=.ok (.agg #[.slice none 0 0,.slice none 0 0]) w:=by kernel_rfl
theorem zny:∀ (k:Int) (l:List ByteArray),∀ a∈numV k l,a.length=2
 | _,[],_,h=>by cases h
 | k,t :: r,a,h=>by
  rw [numV] at h
  rcases List.mem_cons.1 h with rfl | h'
  ·rfl
  ·exact zny (k+1) r a h'
theorem zj3 {u:ByteArray} (h:(!(u.toList == (⟨#[]⟩:ByteArray).toList))=true):0 < (u.size:Int):=by
 have:¬ u.size=0:=fun e=>by rw [ze8.2 e] at h; exact Bool.noConfusion h
 omega
theorem zt3 {u:ByteArray} (h:(u.toList == (⟨#[]⟩:ByteArray).toList||decide (zee u 0=35))=true):idle u=true:=by
 rw [Bool.or_eq_true] at h
 rcases h with h' | h'
 ·exact zv1 (ze8.1 h')
 ·exact zv2 h'
theorem zrz {u:ByteArray} (h:(u.toList == (⟨#[]⟩:ByteArray).toList||decide (zee u 0=35))=false):idle u=false:=by
 obtain⟨h1,h2⟩:=(Bool.or_eq_false_iff).1 h
 exact zt2 (fun e=>by rw [ze8.2 e] at h1; cases h1) h2
theorem zrN {l:List ByteArray} {k:Int} {i:Nat} {a:List Value} (h:(numV k l)[i]?=some a):∃ u,l[i]?=some u∧a=[.int .i64 (k+i),.string u]:=by
 have hi:i < l.length:=by
  have:=(List.getElem?_eq_some_iff.1 h).1
  rwa [zhz] at this
 refine⟨l[i],List.getElem?_eq_getElem hi,?_⟩
 have:=zkc (k:=k) (List.getElem?_eq_getElem hi)
 rw [this] at h
 cases h; rfl
set_option maxRecDepth 100000 in
set_option maxHeartbeats 4000000 in
theorem zus (t:ByteArray) (w:World) (hmx:Has w (IntV 2)) (hcp:Has w (zaW (some ⟨0,0,none⟩) 1 encS copesW)) (hop:Has w (zaW (some ⟨1,0,none⟩) 1 encS opensW)) :
  Calls Tryz.prog 24 #[.string t] w (zcU (fun z:(Option Addr×Nat×List ShC)×(Option Addr×Nat×List WlC)=>.tuple #[.agg #[.slice z.1.1 z.1.2.2.length z.1.2.1,.slice z.2.1 z.2.2.2.length z.2.2.1],.int .i64 (zgA t).2.1,.int .i64 (zgA t).2.2]) (fun z=>PlR yP z (zgA t).1) w):=by
 refine zan (vs:=[_]) Tryz.func24 rfl rfl (Nat.le_of_ble_eq_true rfl) ?_
 refine zac (zaa (zaG rfl rfl (zaL tf31 (zs:=[_,_]) rfl) fun b2=>?_))
 refine zaG rfl rfl (zaL tf3 (zs:=[_]) rfl) fun b3=>?_
 refine zaG rfl rfl (zaL tf33 (zs:=[_]) rfl) fun b4=>?_
 refine zag (zae (T':=[(0,_),(2,_),(3,_),(4,_)]) ⟨rfl,rfl,rfl,rfl,trivial⟩ ?_)
 refine zac (zac (zaa (gM ?_)))
 refine gQ (zeO (Tryz.underlying9) rfl) ?_
 refine gQ (zc6 rfl rfl) ?_
 refine zag (zae (T':=[(0,_),(2,_),(3,_),(4,_),(10,_)]) ⟨rfl,rfl,rfl,rfl,rfl,trivial⟩ ?_)
 refine zap rfl (fun hc10=>?_) (fun hc10=>?_)
 ·
  refine zac (zaa (gk_y rfl rfl (zaI (parts:=[]) rfl zu9) ?_))
  refine zaA 2 tf31 rfl rfl (vs:=[_,_]) rfl rfl rfl rfl rfl ?_
  refine zaA 1 tf3 rfl rfl (vs:=[_]) rfl rfl rfl rfl rfl ?_
  refine zaA 0 tf33 rfl rfl (vs:=[_]) rfl rfl rfl rfl rfl ?_
  refine zag (zae (T':=[(0,_),(2,_),(3,_),(4,_)]) ⟨rfl,rfl,rfl,rfl,trivial⟩ ?_)
  refine zpO yP ?_
  refine zaw (zbd ((none,0,[]),(none,0,[])) 0 (zdh rfl (zbU (i:=3) (vs:=[_,_]) tf31 rfl rfl rfl rfl) (zcy (i:=2) tf3 rfl rfl rfl) (zcy (i:=1) tf33 rfl rfl rfl)) (by rw [zjq (by have:=of_decide_eq_true hc10; omega)] <;> rfl) (by rw [zjq (by have:=of_decide_eq_true hc10; omega)] <;> rfl))
 ·have hlong:¬ t.size > 40000:=by have:=of_decide_eq_false hc10; omega
  refine zaq (zac (zac (zaa (gM ?_))))
  refine zaG rfl rfl (zbm en58 rfl (fun w hw=>zud _ w)) fun b13=>?_
  refine zag (zae (T':=[(2,_),(3,_),(4,_),(13,_)]) ⟨rfl,rfl,rfl,rfl,trivial⟩ ?_)
  refine zao 3 rfl ?_
  refine za2 (R':=stR yP b2 (.ok ⟨[],[]⟩)) 0 rfl (fun B w hA=>zxt hA) ?_
  refine zao 2 rfl ?_
  refine zao 3 rfl ?_
  refine zao 2 rfl ?_
  refine zao 3 rfl ?_
  refine zas ?_
  refine zae (T':=[(2,_),(3,_),(4,_),(13,_)]) ⟨rfl,rfl,rfl,rfl,trivial⟩ ?_
  refine zj0 (X:=Except (Int×Int) Plan) (fun x=>[stR yP b2 x,Box b3 [.int .i64 (lnE x)] 3,Box b4 [.int .i64 (erE x)] 33]) (fun n x=>∃ q,x=.ok q∧OkQ q∧zdo ⟨[],[]⟩ 1 (zcb t)=zdo q (1+(n:Int)) ((zcb t).drop n)) (fun x=>x=zdo ⟨[],[]⟩ 1 (zcb t)∧∃ y,x=.error y) [] (.ok ⟨[],[]⟩) rfl en85 rfl rfl ⟨_,rfl,zup,by simp⟩ (zrG t b13 (by omega)) (Has.rd hmx) (zny _ _) rfl ?_ ?_ ?_ ?_
  ·rintro R1 R2 rl U' w' n x args hget hR hrd hins hbeg
   obtain⟨u,hs,rfl⟩:=zrN hget
   obtain⟨q,rfl,hq,hle⟩:=hR
   refine zae (T':=[(2,_),(3,_),(4,_),(14,_),(15,_)]) ⟨rfl,rfl,rfl,rfl,rfl,trivial⟩ ?_
   refine zac (zaa (gA ?_))
   refine zag (zae (T':=[(2,_),(3,_),(4,_),(5,_),(15,_)]) ⟨rfl,rfl,rfl,rfl,rfl,trivial⟩ ?_)
   refine zaa (gA ?_)
   refine zag (zae (T':=[(2,_),(3,_),(4,_),(5,_),(6,_)]) ⟨rfl,rfl,rfl,rfl,rfl,trivial⟩ ?_)
   refine za2 (R':=PlP b2 q) 1 rfl (fun B w hA=>hA) ?_
   refine za2 (R':=Box b3 [.int .i64 0] 3) 2 rfl (fun B w hA=>hA) ?_
   refine za2 (R':=Box b4 [.int .i64 0] 33) 3 rfl (fun B w hA=>hA) ?_
   refine hbeg _ _ _ ?_
   refine zas ?_
   refine zac (zac (zbb 7 (fun _=>mixed) (by kernel_rfl) ?_))
   refine ph_y (zaf rfl) ?_
   refine ph_y (zge rfl rfl) ?_
   refine ph_y (zaf rfl) ?_
   refine zaz rfl rfl (fun hgd=>by(try rw [hgd]); (try have hgd2:=zj3 hgd); exact(zaf rfl)) ?_
   refine zaz rfl rfl (fun hgd=>by(try rw [hgd]); (try have hgd2:=zj3 hgd); exact(zdM (Tryz.underlying9) rfl rfl (by omega) (by omega))) ?_
   refine zaz rfl rfl (fun hgd=>by(try rw [hgd]); (try have hgd2:=zj3 hgd); exact(zbL rfl rfl)) ?_
   refine ph_y (zaR rfl rfl rfl) ?_
   refine zag (zae (T':=[(2,_),(3,_),(4,_),(5,_),(6,_),(22,_)]) ⟨rfl,rfl,rfl,rfl,rfl,rfl,trivial⟩ ?_)
   refine zap rfl (fun hc22=>?_) (fun hc22=>?_)
   ·have hid:=zt3 hc22
    refine za8 rfl ?_
    exact zb9 (.ok q) trivial rfl ⟨_,rfl,hq,by rw [hle,zl1 hs,zoq hid,(show 1+(n:Int)+1=1+((n+1:Nat):Int) from by omega)]⟩
   ·have hid:=zrz hc22
    refine zaq (zac (zaa (gM ?_)))
    refine zjY 1 en59 rfl rfl rfl (fun w B hF=>zv6 b2 q u w B (fun k hk=>(hF.own k hk).2) hF.A hq (by have:=zom hs; omega) (hF.rd (hrd _ (Has.rd hmx))) (hF.rd (hrd _ (Has.rd hcp))) (hF.rd (hrd _ (Has.rd hop)))) fun z24 hq24=>?_
    refine gA ?_
    refine zag (zae (T':=[(2,_),(3,_),(4,_),(5,_),(7,_)]) ⟨rfl,rfl,rfl,rfl,rfl,trivial⟩ ?_)
    refine zac (zaa (gM ?_))
    refine gQ (zcr rfl rfl) ?_
    refine zag (zae (T':=[(2,_),(3,_),(4,_),(5,_),(7,_),(26,_)]) ⟨rfl,rfl,rfl,rfl,rfl,rfl,trivial⟩ ?_)
    refine zap rfl (fun hc26=>?_) (fun hc26=>?_)
    ·have hk:=zrg (q:=q) (t:=u) (by simpa using hc26)
     refine za2 (R':=plAt yP b2) 1 rfl (fun B w hA=>by rw [hk] at hA; exact hA) ?_
     refine zao 1 rfl ?_
     refine zpP fun pa pn pm pb pe pd=>?_
     refine zac (zaa (gk_y rfl rfl (zaI (parts:=[]) rfl zu9) ?_))
     refine gM ?_
     refine gM ?_
     refine zaA 0 tf31 rfl rfl (vs:=[_,_]) rfl rfl rfl rfl rfl ?_
     refine zaA 2 tf3 rfl rfl (vs:=[_]) rfl rfl rfl rfl rfl ?_
     refine zaA 3 tf33 rfl rfl (vs:=[_]) rfl rfl rfl rfl rfl ?_
     refine zag (zae (T':=[(2,_),(3,_),(4,_)]) ⟨rfl,rfl,rfl,trivial⟩ ?_)
     refine za2 (R':=stR yP b2 (.error (1+(n:Int),zkJ (zcu q u)))) 0 rfl (fun B w hA=>hA) ?_
     refine zao 3 rfl ?_
     refine zao 3 rfl ?_
     refine zao 2 rfl ?_
     refine zao 3 rfl ?_
     refine zaw ?_
     exact zb9 (.error (1+(n:Int),zkJ (zcu q u))) trivial rfl ⟨by rw [hle,zl1 hs,zqr hid hk],_,rfl⟩
    ·obtain⟨q',hq'⟩:=ztu (q:=q) (t:=u) (by simpa using hc26)
     refine za2 (R':=PlP b2 q') 1 rfl (fun B w hA=>by rw [hq'] at hA; exact hA) ?_
     refine zaq ?_
     exact zb9 (.ok q') trivial rfl ⟨_,rfl,zrS hq hq',by rw [hle,zl1 hs,zhB hid hq',(show 1+(n:Int)+1=1+((n+1:Nat):Int) from by omega)]⟩
  ·intro Dm x hR
   obtain⟨q,rfl,hq,hle⟩:=hR
   have hfin:zdo ⟨[],[]⟩ 1 (zcb t)=.ok q:=by rw [hle,zhz,List.drop_of_length_le (Nat.le_refl _)]; rfl
   refine za2 (R':=PlP b2 q) 1 rfl (fun B w hA=>hA) ?_
   refine za2 (R':=Box b3 [.int .i64 0] 3) 2 rfl (fun B w hA=>hA) ?_
   refine za2 (R':=Box b4 [.int .i64 0] 33) 3 rfl (fun B w hA=>hA) ?_
   refine zao 1 rfl ?_
   refine zgq fun sa sc S wa wc V hS hV=>?_
   refine zac (zaa (gk_y rfl rfl (zat 0 tf31 rfl rfl (vs:=[_,_]) rfl rfl) ?_))
   refine zaA 0 tf31 rfl rfl (vs:=[_,_]) rfl rfl rfl rfl rfl ?_
   refine zaA 6 tf3 rfl rfl (vs:=[_]) rfl rfl rfl rfl rfl ?_
   refine zaA 7 tf33 rfl rfl (vs:=[_]) rfl rfl rfl rfl rfl ?_
   refine zag (zae (T':=[(2,_),(3,_),(4,_)]) ⟨rfl,rfl,rfl,trivial⟩ ?_)
   refine zao 4 rfl ?_
   refine zao 4 rfl ?_
   refine zao 4 rfl ?_
   refine zao 4 rfl ?_
   refine zbT 4 ?_
   refine za2 (R':=PlR yP ((sa,sc,S),(wa,wc,V)) q) 0 rfl (fun B w hA=>⟨hS,hV,hA⟩) ?_
   refine zaw (zil 2 rfl ?_)
   refine zbd ((sa,sc,S),(wa,wc,V)) 0 (zdh rfl (zbU (i:=1) (vs:=[_,_]) tf31 rfl rfl rfl rfl) (zcy (i:=2) tf3 rfl rfl rfl) (zcy (i:=3) tf33 rfl rfl rfl)) (by rw [zkf hlong hfin] <;> rfl) (by rw [zkf hlong hfin] <;> rfl)
  ·rintro Dm x hD
   obtain⟨hfin,y,rfl⟩:=hD
   have hfin:=hfin.symm
   refine za2 (R':=Box b2 [.slice none 0 0,.slice none 0 0] 31) 1 rfl (fun B w hA=>hA) ?_
   refine za2 (R':=Box b3 [.int .i64 y.1] 3) 2 rfl (fun B w hA=>hA) ?_
   refine za2 (R':=Box b4 [.int .i64 y.2] 33) 3 rfl (fun B w hA=>hA) ?_
   refine zpO yP ?_
   refine zil 1 rfl ?_
   refine zbd ((none,0,[]),(none,0,[])) 0 (zdh rfl (zbU (i:=1) (vs:=[_,_]) tf31 rfl rfl rfl rfl) (zcy (i:=2) tf3 rfl rfl rfl) (zcy (i:=3) tf33 rfl rfl rfl)) (by rw [zlq hlong hfin] <;> rfl) (by rw [zlq hlong hfin] <;> rfl)
  ·exact fun _ _ _ _ h=>absurd h (by simp)
end Go.Proofs.YtdcfcfhmkfkgmaaGreatDoor
namespace Go.Proofs.YtdcfcfhmkfkgmaaGreatDoor
open Go.K Go.Stn Go.Pln Go.RowKit
theorem zBl:AF Tryz.prog 124 9 1 16 [.string ⟨#[]⟩]:=⟨Tryz.underlying124,by kernel_rfl,rfl⟩
theorem zAm (x0_0:ByteArray) (w:World):(Instr.buildSlice 124 1 #[(0,.string x0_0)]).run Tryz.prog w=.ok (.slice (some ⟨w.heap.size,0,none⟩) 1 1) (w.alloc (.cells (([x0_0]:List (ByteArray)).flatMap encS).toArray 9)):=by kernel_rfl
end Go.Proofs.YtdcfcfhmkfkgmaaGreatDoor
namespace Go.K
open Go Go.RowKit
abbrev onB (N:Nat) (listed:Array Bool):Nat→Bool:=fun k=>Nat.ble N k||onF listed k
structure Inv4 {XS:Nat→Type} (c:Cx) (ds:List Deferred) (ops pre:List Oper) (T0:List (Nat×Value)) (H:List Res) (S:List (E3 XS)) (N:Nat) (listed:Array Bool) (a:Act) (w:World):Prop where
 base:Base c.U c.w0 w
 size:a.tmps.size=c.n
 defers:a.defers=ds
 closed:∀ (k:Nat) (o:Oper),ops[k]?=some o→isOn listed k→∀ j,zaT o j=true→isOn listed j
 old:∀ s v,lk T0 s=some v→(∀ (i:Nat) (o:Oper),pre[i]?=some o→isOn listed i→o.dst≠some s)→a.tmps[s]?=some v
 fam:∃ (ρ:(i:Nat)→XS i) (B:Nat→Nat→Prop),(∀ x∈S,isOn listed x.i→∀ d,x.d=some d→a.tmps[d]?=some (x.V ρ))∧Slots c H (fun j=>zbe ρ (onB N listed) j S) B w
section
variable {XS:Nat→Type} {c:Cx} {ds:List Deferred} {p:Post} {ops pre suf:List Oper} {T0:List (Nat×Value)} {H:List Res} {S:List (E3 XS)} {listed:Array Bool} {a:Act} {w:World} {ms:List Nat} {N:Nat}
theorem ziu {N i:Nat} {l:Array Bool} (h:i < N) (hn:¬ isOn l i):onB N l i=false:=by
 unfold isOn at hn
 have h1:Nat.ble N i=false:=by
  cases hb:Nat.ble N i with
  | false=>rfl
  | true=>have:=Nat.le_of_ble_eq_true hb; omega
 show(Nat.ble N i||l.getD i false)=false
 rw [h1]; simpa using hn
theorem zqk {N i:Nat} {l:Array Bool} (h:isOn l i):onB N l i=true:=by
 show(Nat.ble N i||l.getD i false)=true
 unfold isOn at h
 rw [h,Bool.or_true]
theorem zkd {N i:Nat} {l:Array Bool} (h:N≤i):onB N l i=true:=by
 show(Nat.ble N i||l.getD i false)=true
 rw [Nat.ble_eq_true_of_le h]; rfl
theorem zhA {N i:Nat} {l:Array Bool} (h:i < N) (ho:onB N l i=true):isOn l i:=Classical.byContradiction fun hn=>by rw [ziu h hn] at ho; cases ho
theorem zeh {N:Nat} {l:Array Bool} {i:Nat} (hi:i < l.size) (j:Nat):onB N (l.setIfInBounds i true) j=(Nat.beq j i||onB N l j):=by
 show(Nat.ble N j||onF (l.setIfInBounds i true) j)=(Nat.beq j i||(Nat.ble N j||onF l j))
 rw [zfn hi]
 cases Nat.ble N j <;> cases Nat.beq j i <;> rfl
def zeU {XS:Nat→Type} (N:Nat):Nat→List Res→List (E3 XS)
 | _,[]=>[]
 | k,R :: r=>⟨N+k,none,some (N+k),fun _=>undef,fun _=>R⟩ :: zeU N (k+1) r
theorem zel {XS:Nat→Type} {N:Nat}:∀ {Hb:List Res} {k:Nat} {x:E3 XS},x∈zeU N k Hb→N+k≤x.i∧x.d=none∧x.t=some x.i∧∀ ρ ρ':(i:Nat)→XS i,x.A ρ=x.A ρ'
 | [],_,_,h=>by cases h
 | R :: r,k,x,h=>by
  rcases List.mem_cons.1 h with rfl | h'
  ·exact⟨Nat.le_refl _,rfl,rfl,fun _ _=>rfl⟩
  ·obtain⟨h1,h2⟩:=zel h'
   exact⟨by omega,h2⟩
theorem zmW {XS:Nat→Type} {N:Nat}:∀ (Hb:List Res) (k:Nat),((zeU (XS:=XS) N k Hb).map (·.i)).Nodup
 | [],_=>List.nodup_nil
 | R :: r,k=>by
  show(((N+k) :: (zeU (XS:=XS) N (k+1) r).map (·.i))).Nodup
  refine List.nodup_cons.2 ⟨fun h=>?_,zmW r (k+1)⟩
  obtain⟨x,hx,he⟩:=List.mem_map.1 h
  have:=(zel hx).1
  omega
structure zAl (c:Cx) (ds:List Deferred) (T:List (Nat×Value)) (H:List Res) (st:Oper) (R:Res) {Z:Type} (V:Z→Value) (A:Z→Res):Prop where
 run:∀ a w B,Sat c.n T ds a→Hp c.U c.w0 H w→(∀ k,B k→k < w.heap.size)→R.A B w→Yld c.P st a w (fun v w'=>∃ z,v=V z∧Mod B w w'∧∃ B',Own B B' w w'∧(A z).A B' w')
def Go4 (N:Nat) (c:Cx) (ds:List Deferred) (pre:List Oper) (ms:List Nat) (T0:List (Nat×Value)) (H:List Res) (i:Nat) (o:Oper) (S:List (E3 XS)) (x:E3 XS):Prop:=
 Go3 c ds pre ms T0 H i o S x ∨
 (x.d=none∧∃ j,x.t=some j∧Nat.ble N j=true∧(S.all fun y=>!tIs y.t j||(Nat.ble N y.i||rcf ms i y.i))=true ∧
  ∀ ρ:(i:Nat)→XS i,∃ R,zbe ρ (fun k=>Nat.ble N k||rcf ms i k) j S=some R∧zfW c ds (zdA ρ (zaT o) S++zcl pre i T0) H o R (x.A ρ)) ∨
 (x.d.isSome=true∧∃ j,x.t=some j∧Nat.ble N j=true∧(S.all fun y=>!tIs y.t j||(Nat.ble N y.i||rcf ms i y.i))=true∧∃ (V:XS i→Value) (A:XS i→Res),(∀ ρ,x.V ρ=V (ρ i))∧(∀ ρ,x.A ρ=A (ρ i)) ∧
  ∀ ρ:(i:Nat)→XS i,∃ R,zbe ρ (fun k=>Nat.ble N k||rcf ms i k) j S=some R∧zAl c ds (zdA ρ (zaT o) S++zcl pre i T0) H o R V A)
def Ob4 (N:Nat) (c:Cx) (ds:List Deferred) (pre:List Oper) (ms:List Nat) (T0:List (Nat×Value)) (H:List Res) (i:Nat) (o:Oper) (S:List (E3 XS)) (x:E3 XS):Prop:=
 match o.guard with
 | none=>Go4 N c ds pre ms T0 H i o S x
 | some (j,want)=>(∃ V0,lk3 S j=some V0∧(∀ ρ,V0 ρ=.bool want)∧zaT o j=true∧Go4 N c ds pre ms T0 H i o S x) ∨
  ∃ (V0:((i:Nat)→XS i)→Value) (u0:Value) (q:Bool) (u:((i:Nat)→XS i)→Value),lk3 S j=some V0∧(∀ ρ,V0 ρ=u0)∧zaT o j=true∧(q=true↔u0=.bool want)∧x.t=none∧x.d.isSome=true ∧
   (∀ ρ,x.V ρ=if q=true then u ρ else undef)∧(q=true→∀ ρ:(i:Nat)→XS i,Y c ds (zeS ρ (rcf ms i) S S++H) (zdA ρ (zaT o) S++zcl pre i T0) o (u ρ))
def PH4 (N:Nat) (c:Cx) (ds:List Deferred) (pre:List Oper) (ms:List Nat) (T0:List (Nat×Value)) (H:List Res) (K:List (E3 XS)→Prop):Nat→List Oper→List (E3 XS)→Prop
 | _,[],S=>K S
 | i,o :: r,S=>∃ x:E3 XS,x.i=i∧x.d=o.dst∧Loc3 ms x∧Ob4 N c ds pre ms T0 H i o S x∧PH4 N c ds pre ms T0 H K (i+1) r (x :: S)
structure Ents4 (N:Nat) (ms:List Nat) (pre:List Oper) (S:List (E3 XS)):Prop where
 nd:(S.map (·.i)).Nodup
 op:∀ x∈S,x.i < N→∃ o,pre[x.i]?=some o∧o.dst=x.d
 bs:∀ x∈S,N≤x.i→x.d=none∧x.t=some x.i∧∀ ρ ρ':(i:Nat)→XS i,x.A ρ=x.A ρ'
 loc:∀ x∈S,x.i < N→Loc3 ms x
 sto:∀ x∈S,∀ j,x.t=some j→j≠x.i→x.i < N∧((j < N∧rcf ms x.i j=true∧∀ r,r < x.i→rcf ms r j=true→rcf ms x.i r=true)∨(N≤j∧∀ y∈S,y.t=some j→y.i < x.i→rcf ms x.i y.i=true))
theorem Ents4.uniq (h:Ents4 N ms pre S):∀ x∈S,∀ y∈S,x.i=y.i→x=y:=by
 have key:∀ (L:List (E3 XS)),(L.map (·.i)).Nodup→∀ x∈L,∀ y∈L,x.i=y.i→x=y:=by
  intro L
  induction L with
  | nil=>intro _ x hx; cases hx
  | cons z r ih=>
   intro hn x hx y hy hxy
   simp only [List.map_cons,List.nodup_cons] at hn
   rcases List.mem_cons.1 hx with rfl | hx' <;> rcases List.mem_cons.1 hy with rfl | hy'
   ·rfl
   ·exact absurd (List.mem_map.2 ⟨y,hy',hxy.symm⟩) hn.1
   ·exact absurd (List.mem_map.2 ⟨x,hx',hxy⟩) hn.1
   ·exact ih hn.2 x hx' y hy' hxy
 exact key S h.nd
theorem Inv4.sat (hI:Inv4 c ds ops pre T0 H S N listed a w) {ρ:(i:Nat)→XS i} (hv:∀ x∈S,isOn listed x.i→∀ d,x.d=some d→a.tmps[d]?=some (x.V ρ)) {i:Nat} (hpre:∀ (k:Nat) o,pre[k]?=some o→ops[k]?=some o) (hun:¬ isOn listed i)
  {o:Oper} (hclo:∀ j,zaT o j=true→isOn listed j) {S':List (E3 XS)} (hS:∀ x∈S',x∈S):Sat c.n (zdA ρ (zaT o) S' ++ zcl pre i T0) ds a:=by
 refine⟨hI.size,fun t v h=>?_,hI.defers⟩
 rcases zez S' h with ⟨x,hx,hd,hb,rfl⟩ | h
 ·exact hv x (hS x hx) (hclo _ hb) t hd
 ·rw [zhu] at h
  obtain⟨h1,h2⟩:=zcD (fun s=>pre.all (fun f=>(match f.dst with | some d=>!Nat.beq d s | none=>true)||zaT f i)) T0 _ (fun _ _ _ _=>trivial) rfl t v h
  refine hI.old t v h1 fun k o hk hon hd=>?_
  rw [List.all_eq_true] at h2
  have h3:=h2 o (List.mem_of_getElem? hk)
  rw [hd] at h3
  simp only [Nat.beq_refl,Bool.not_true,Bool.false_or] at h3
  exact hun (hI.closed k o (hpre k o hk) hon i h3)
theorem Inv4.shown (hI:Inv4 c ds ops pre T0 H S N listed a w) (hE:Ents4 N ms pre S) {ρ:(i:Nat)→XS i} {B:Nat→Nat→Prop} (hs:Slots c H (fun j=>zbe ρ (onB N listed) j S) B w) {i:Nat} (hun:¬ isOn listed i)
  (hrc:∀ j,rcf ms i j=true→isOn listed j) (hrcl:∀ k,isOn listed k→∀ j,rcf ms k j=true→isOn listed j) {q S':List (E3 XS)} {x:E3 XS} (hxi:x.i=i) (hq:S=q++x :: S') (hgt:∀ y∈q,i < y.i) (hqN:∀ y∈q,y.i < N) (hxN:i < N) :
  Hp c.U c.w0 (zeS ρ (rcf ms i) S' S' ++ H) w∧∀ j,okSt (rcf ms i) j S' = true→rcf ms i j=true→zbe ρ (rcf ms i) j S' = zbe ρ (onB N listed) j S:=by
 have heq:∀ j,okSt (rcf ms i) j S' = true→rcf ms i j=true→zbe ρ (rcf ms i) j S' = zbe ρ (onB N listed) j S:=fun j hok hij=>by
  have h1:zbe ρ (onB N listed) j S=zbe ρ (onB N listed) j S':=by
   rw [hq]
   have e:q++x :: S' = (q++[x])++S':=by simp
   rw [e]
   refine zb0 (q++[x]) S' fun y hy ht=>?_
   have hyS:y∈S:=by rw [hq,e]; exact List.mem_append_left _ hy
   have hoff:¬ isOn listed y.i:=fun hon=>by
    rcases List.mem_append.1 hy with hy' | hy'
    ·have hgt':=hgt y hy'
     have hji:=zhm hij
     rcases(hE.sto y hyS j (zcq.1 ht) (by omega)).2 with ⟨_,_,h2⟩ | ⟨hN,_⟩
     ·exact hun (hrcl _ hon i (h2 i hgt' hij))
     ·omega
    ·rw [List.mem_singleton.1 hy',hxi] at hon
     exact hun hon
   refine ziu ?_ hoff
   rcases List.mem_append.1 hy with hy' | hy'
   ·exact hqN y hy'
   ·rw [List.mem_singleton.1 hy',hxi]; exact hxN
  rw [h1]
  refine zbN S' fun y hy ht=>?_
  have h2:=zfm S' hok y hy ht
  have h3:=hrc _ h2
  exact⟨by rw [h2,zqk h3],fun _=>rfl⟩
 refine⟨⟨hI.base,?_⟩,heq⟩
 have hnd:(S'.map (·.i)).Nodup:=by
  have:=hE.nd
  rw [hq,List.map_append,List.nodup_append] at this
  have:=this.2.1
  rw [List.map_cons,List.nodup_cons] at this
  exact this.2
 obtain⟨js,_,h2,h3⟩:=zgL (ρ:=ρ) (rc:=rcf ms i) (S:=S') (G:=fun j=>zbe ρ (onB N listed) j S) (fun j hok hex R hR=>by
  obtain⟨y,hy,hyj,ht⟩:=hex
  have:rcf ms i j=true:=zfm S' hok y hy (by rw [←hyj]; exact ht) |> (hyj ▸ ·)
  rw [←heq j hok this]; exact hR) S' (fun _ h=>h) hnd
 exact hs.holds js _ h3 h2
theorem Inv4.put (hI:Inv4 c ds ops pre T0 H S N listed a w) (hE:Ents4 N ms pre S) {i d:Nat} {o:Oper} {x:E3 XS} (hx:x∈S) (hxi:x.i=i) (hp:pre[i]?=some o) (ho:ops[i]?=some o) (hil:i < listed.size) (hd:o.dst=some d) (hxd:x.d=some d)
  (hdist:∀ j oj,pre[j]?=some oj→j≠i→oj.dst≠some d) (hn:d < c.n) (hclo:∀ j,zaT o j=true→isOn listed j) {w':World} {v:Value} (hb:Base c.U c.w0 w') {ρ':(i:Nat)→XS i} {B':Nat→Nat→Prop}
  (hv:v=x.V ρ') (hold:∀ y∈S,isOn listed y.i→y.i≠i→∀ d',y.d=some d'→a.tmps[d']?=some (y.V ρ')) (hs:Slots c H (fun j=>zbe ρ' (onB N (listed.setIfInBounds i true)) j S) B' w') :
  Inv4 c ds ops pre T0 H S N (listed.setIfInBounds i true) (a.put (some d) v) w':=by
 have hon:∀ j,isOn (listed.setIfInBounds i true) j↔j=i∨isOn listed j:=zbt hil
 have hput:∀ t u,t≠d→a.tmps[t]?=some u→(a.put (some d) v).tmps[t]?=some u:=fun t u ht hu=>by
  simp only [Act.put]
  rw [Array.getElem?_setIfInBounds_ne (Ne.symm ht)]; exact hu
 refine⟨hb,by simp [Act.put,hI.size],hI.defers,zem hI.closed ho hil hclo,?_,ρ',B',?_,hs⟩
 ·intro s u hs' hno
  have hsd:s≠d:=fun h=>hno i o hp ((hon i).2 (.inl rfl)) (by rw [hd,h])
  exact hput s u hsd (hI.old s u hs' (fun k ok hk hlk=>hno k ok hk ((hon k).2 (.inr hlk))))
 ·intro y hy hoy d' hd'
  by_cases hyi:y.i=i
  ·have:y=x:=hE.uniq y hy x hx (hyi.trans hxi.symm)
   subst this
   rw [hxd,Option.some.injEq] at hd'
   subst hd'
   simp [Act.put,hI.size,hn,hv]
  ·have hly:isOn listed y.i:=((hon y.i).1 hoy).resolve_left hyi
   refine hput d' _ ?_ (hold y hy hly hyi d' hd')
   intro hdd
   obtain⟨oy,hoy',hdy⟩:=hE.op y hy (Nat.lt_of_not_le fun h=>by rw [(hE.bs y hy h).1] at hd'; cases hd')
   exact hdist y.i oy hoy' hyi (by rw [hdy,hd',hdd])
theorem zqo {K:List (E3 XS)→Prop}:∀ (r:List Oper) (i:Nat) (Sa:List (E3 XS)),PH4 N c ds pre ms T0 H K i r Sa→∃ S,K S∧(∃ q,S=q++Sa∧q.map (·.i)=(List.range' i r.length).reverse) ∧
  ∀ (j:Nat) o,r[j]?=some o→∃ x S1,x.i=i+j∧x.d=o.dst∧Loc3 ms x∧Ob4 N c ds pre ms T0 H (i+j) o (S1++Sa) x∧∃ q,S=q++x :: (S1++Sa)
 | [],i,Sa,h=>⟨Sa,h,⟨[],rfl,rfl⟩,fun j o hj=>by simp at hj⟩
 | o :: r,i,Sa,h=>by
  obtain⟨x,hi,hd,hl,hO,hr⟩:=h
  obtain⟨S,hK,⟨q,hq,hq2⟩,hall⟩:=zqo r (i+1) _ hr
  refine⟨S,hK,⟨q++[x],by rw [hq]; simp,?_⟩,?_⟩
  ·simp only [List.map_append,hq2,List.map_cons,List.map_nil,List.length_cons,List.range'_succ,List.reverse_cons,hi]
  ·intro j oj hj
   cases j with
   | zero=>
    simp only [List.getElem?_cons_zero,Option.some.injEq] at hj
    subst hj
    exact⟨x,[],hi,hd,hl,hO,q,hq⟩
   | succ j=>
    simp only [List.getElem?_cons_succ] at hj
    obtain⟨x',S1,h1,h2,h3,h4,q',h5⟩:=hall j oj hj
    have e:S1++x :: Sa=(S1++[x])++Sa:=by simp
    rw [e] at h4 h5
    exact⟨x',S1++[x],by omega,h2,h3,by rwa [show i+(j+1)=i+1+j from by omega],q',h5⟩
def Sto4 (N:Nat) (ms:List Nat) (S':List (E3 XS)) (x:E3 XS):Prop:=∀ j,x.t=some j→j≠x.i→(j < N∧rcf ms x.i j=true∧∀ r,r < x.i→rcf ms r j=true→rcf ms x.i r=true)∨(N≤j∧∀ y∈S',y.t=some j→y.i < N→rcf ms x.i y.i=true)
theorem zv0 {i:Nat} {o:Oper} {S':List (E3 XS)} {x:E3 XS} (h:Go4 N c ds pre ms T0 H i o S' x) (hxi:x.i=i) (hN:i < N):Sto4 N ms S' x:=by
 have key:∀ j,x.t=some j→Nat.ble N j=true→(S'.all fun y=>!tIs y.t j||(Nat.ble N y.i||rcf ms i y.i))=true→Sto4 N ms S' x:=fun j ht h1 h2=>by
  intro j' hj hne
  rw [ht,Option.some.injEq] at hj
  subst hj
  refine .inr ⟨Nat.le_of_ble_eq_true h1,fun y hy hyt hyN=>?_⟩
  have h3:=List.all_eq_true.1 h2 y hy
  rw [zcq.2 hyt] at h3
  have h4:Nat.ble N y.i=false:=by
   cases hb:Nat.ble N y.i with
   | false=>rfl
   | true=>have:=Nat.le_of_ble_eq_true hb; omega
  rw [h4] at h3
  rw [hxi]
  simpa using h3
 rcases h with h | ⟨_,j,ht,h1,h2,_⟩ | ⟨_,j,ht,h1,h2,_⟩
 ·intro j hj hne
  obtain⟨a,b⟩:=ztX h hxi j hj hne
  have:=zhm a
  exact .inl ⟨by omega,a,b⟩
 ·exact key j ht h1 h2
 ·exact key j ht h1 h2
theorem zxs {i:Nat} {o:Oper} {S':List (E3 XS)} {x:E3 XS} (h:Ob4 N c ds pre ms T0 H i o S' x) (hxi:x.i=i) (hN:i < N):Sto4 N ms S' x:=by
 unfold Ob4 at h
 cases hg:o.guard with
 | none=>rw [hg] at h; exact zv0 h hxi hN
 | some gw=>
  rw [hg] at h
  rcases h with ⟨_,_,_,_,h⟩ | ⟨_,_,_,_,_,_,_,_,ht,_⟩
  ·exact zv0 h hxi hN
  ·intro j hj; rw [ht] at hj; cases hj
theorem zrB (hI:Inv4 c ds ops pre T0 H S N listed a w) {ρ:(i:Nat)→XS i} (hv:∀ x∈S,isOn listed x.i→∀ d,x.d=some d→a.tmps[d]?=some (x.V ρ)) (hall:∀ x∈S,∀ d,x.d=some d→isOn listed x.i):Sat c.n (zdA ρ (fun _=>true) S++zd3 pre T0) ds a:=by
 refine⟨hI.size,fun t v h=>?_,hI.defers⟩
 rcases zez S h with ⟨x,hx,hd,_,rfl⟩ | h
 ·exact hv x hx (hall x hx t hd) t hd
 ·rw [zeI] at h
  obtain⟨h1,h2⟩:=zcD (fun s=>pre.all (fun f=>match f.dst with | some d=>!Nat.beq d s | none=>true)) T0 _ (fun _ _ _ _=>trivial) rfl t v h
  refine hI.old t v h1 fun k o hk _ hd=>?_
  rw [List.all_eq_true] at h2
  have h3:=h2 o (List.mem_of_getElem? hk)
  rw [hd] at h3
  simp at h3
theorem zux {S0 q0:List (E3 XS)} (hN:(pre++suf).length≤N) (hc:zeY c.n pre suf ms=true) (hE:Ents4 N ms pre S) (hS:S=q0++S0) (hS1:q0.map (·.i)=(List.range' 0 pre.length).reverse) (hS0:∀ x∈S0,N≤x.i)
  (hall:∀ (j:Nat) o,pre[j]?=some o→∃ (x:E3 XS) (S1:List (E3 XS)),x.i=0+j∧x.d=o.dst∧Loc3 ms x∧Ob4 N c ds pre ms T0 H (0+j) o (S1++S0) x∧∃ q,S=q++x :: (S1++S0))
  (hK:∀ ρ:(i:Nat)→XS i,GK c ds (KL c (pre++suf).toArray p suf) (zdA ρ (fun _=>true) S++zd3 pre T0) (zeS ρ (fun _=>true) S S++H)) :
  ∀ (fuel:Nat) (listed:Array Bool) (a:Act) (w:World),((List.range (pre++suf).length).filter (fun i=>!listed.getD i false)).length≤fuel→listed.size=(pre++suf).length →
   (∀ k,pre.length≤k→¬ isOn listed k)→Inv4 c ds (pre++suf) pre T0 H S N listed a w→wpAnyIn (FW c.r) 0 c.P .any (pre++suf).toArray p.Q fuel listed a w:=by
 simp only [zeY,Bool.and_eq_true] at hc
 obtain⟨⟨⟨⟨⟨⟨hback,hdef⟩,hdst⟩,hok⟩,hfirst⟩,hchain⟩,hmk⟩:=hc
 have hpre:∀ (k:Nat) o,pre[k]?=some o→(pre++suf)[k]?=some o:=fun k o h=>by
  have:=(List.getElem?_eq_some_iff.1 h).1
  rw [List.getElem?_append_left this]; exact h
 have hpN:pre.length≤N:=by rw [List.length_append] at hN; omega
 have hmem:∀ x∈S,x.i < pre.length∨N≤x.i:=fun x hx=>by
  rw [hS] at hx
  rcases List.mem_append.1 hx with hx | hx
  ·have hjm:x.i∈q0.map (·.i):=List.mem_map.2 ⟨_,hx,rfl⟩
   rw [hS1,List.mem_reverse,List.mem_range'_1] at hjm
   exact .inl (by omega)
  ·exact .inr (hS0 x hx)
 have fin:∀ (listed:Array Bool) (a:Act) (w:World),(∀ i,i < pre.length→isOn listed i)→Inv4 c ds (pre++suf) pre T0 H S N listed a w→KL c (pre++suf).toArray p suf a w:=by
  intro listed a w hallon hI
  obtain⟨ρ,B,hv,hs⟩:=hI.fam
  have hon:∀ x∈S,onB N listed x.i=true:=fun x hx=>(hmem x hx).elim (fun h=>zqk (hallon _ h)) zkd
  refine hK ρ a w (zrB hI hv fun x hx d hd=>hallon _ ((hmem x hx).resolve_right fun h=>by rw [(hE.bs x hx h).1] at hd; cases hd)) ⟨hI.base,?_⟩
  obtain⟨js,_,h2,h3⟩:=zgL (ρ:=ρ) (rc:=fun _=>true) (S:=S) (G:=fun j=>zbe ρ (onB N listed) j S) (fun j _ _ R hR=>by
   rw [←hR]
   exact zbN S fun y hy _=>⟨hon y hy,fun _=>rfl⟩) S (fun _ h=>h) hE.nd
  exact hs.holds js _ h3 h2
 intro fuel
 induction fuel with
 | zero=>
  intro listed a w hf hsz hsuf hI
  by_cases hallon:∀ i,i < pre.length→isOn listed i
  ·have hl:=fin listed a w hallon hI
   have h0:suf.length=0:=by
    rcases Nat.eq_zero_or_pos suf.length with h | h
    ·exact h
    ·exfalso
     have hmem:pre.length∈(List.range (pre++suf).length).filter (fun i=>!listed.getD i false):=by
      rw [List.mem_filter,List.mem_range]
      refine⟨by simp; omega,?_⟩
      have:=hsuf pre.length (Nat.le_refl _)
      unfold isOn at this
      simp only [Bool.not_eq_true] at this
      rw [this]; rfl
     have:=List.length_pos_of_mem hmem
     omega
   refine zhl (m:=pre.length) hback hchain 0 0 0 listed a w (by rw [List.length_append]; omega) (Nat.le_refl _) hsz (fun k hk=>⟨fun _=>by simp at hk; omega,fun h=>hallon k (by omega)⟩) ?_
   rw [Nat.add_zero,List.drop_left]
   exact hl
  ·exfalso
   obtain⟨i,hi⟩:=Classical.not_forall.1 hallon
   obtain⟨hi1,hi2⟩:=Classical.not_imp.1 hi
   have hmem:i∈(List.range (pre++suf).length).filter (fun i=>!listed.getD i false):=by
    rw [List.mem_filter,List.mem_range]
    refine⟨by simp; omega,?_⟩
    unfold isOn at hi2
    simp only [Bool.not_eq_true] at hi2
    rw [hi2]; rfl
   have:=List.length_pos_of_mem hmem
   omega
 | succ fuel ih=>
  intro listed a w hf hsz hsuf hI
  have hrcl:∀ k,isOn listed k→∀ j,rcf ms k j=true→isOn listed j:=fun k hk j hj=>by
   have hkl:k < pre.length:=by
    rcases Nat.lt_or_ge k pre.length with h | h
    ·exact h
    ·exact absurd hk (hsuf k h)
   exact zfI hmk hback hI.closed k pre[k] (hpre k _ (by simp [hkl])) (fun j hj=>hI.closed k pre[k] (hpre k _ (by simp [hkl])) hk j hj) j hj
  by_cases hallon:∀ i,i < pre.length→isOn listed i
  ·have hl:=fin listed a w hallon hI
   have hcnt:suf.length≤fuel+1:=by
    refine Nat.le_trans ?_ hf
    rw [List.length_append,List.range_eq_range',←List.range'_append_1,List.filter_append,List.length_append]
    refine Nat.le_trans ?_ (Nat.le_add_left _ _)
    rw [List.filter_eq_self.2 (fun x hx=>?_)]
    ·simp
    ·rw [List.mem_range'_1] at hx
     have:=hsuf x (by omega)
     unfold isOn at this
     simp only [Bool.not_eq_true] at this
     rw [this]; rfl
   refine zhl (m:=pre.length) hback hchain suf.length 0 (fuel+1) listed a w (by simp) hcnt hsz (fun k hk=>⟨fun hon=>?_,fun h=>hallon k (by omega)⟩) ?_
   ·rcases Nat.lt_or_ge k pre.length with h | h
    ·omega
    ·exact absurd hon (hsuf k h)
   rw [Nat.add_zero,List.drop_left]
   exact hl
  ·have hex:∃ i,i < pre.length∧¬ isOn listed i:=by
    obtain⟨i,hi⟩:=Classical.not_forall.1 hallon
    exact⟨i,Classical.not_imp.1 hi⟩
   refine⟨fun h0=>?_,fun i hi=>?_⟩
   ·exfalso
    have least:∀ n,(∃ i,i < n∧¬ isOn listed i)→∃ i,i < n∧¬ isOn listed i∧∀ k,k < i→isOn listed k:=by
     intro n
     induction n with
     | zero=>rintro ⟨i,hi,_⟩; omega
     | succ n ih=>
      rintro ⟨i,hi,hno⟩
      by_cases h:∃ i,i < n∧¬ isOn listed i
      ·obtain⟨j,h1,h2,h3⟩:=ih h
       exact⟨j,by omega,h2,h3⟩
      ·refine⟨i,hi,hno,fun k hk=>Classical.byContradiction fun hn=>h ⟨k,by omega,hn⟩⟩
    obtain⟨i,h1,h2,h3⟩:=least _ hex
    have hlt:i < (pre++suf).length:=by simp; omega
    have:i∈Region.ready .any (pre++suf).toArray listed:=by
     refine(zbX (by simpa using hsz)).2 ⟨by simpa using hlt,h2,(pre++suf)[i],by simp,fun j hj=>?_⟩
     have:=zbY _ 0 hback i (pre++suf)[i] (by simp) j hj
     exact h3 j (by omega)
    rw [h0] at this
    cases this
   ·obtain⟨g1,g2,o,ho,g3⟩:=(zbX (by simpa using hsz)).1 hi
    simp only [List.size_toArray] at g1
    have ho':(pre++suf)[i]?=some o:=by simpa using ho
    have him:i < pre.length:=by
     rcases Nat.lt_or_ge i pre.length with h | h
     ·exact h
     ·exfalso
      rcases Nat.lt_or_ge pre.length i with hgt | hle
      ·unfold zhL at hchain
       have:=List.all_eq_true.1 hchain (i - pre.length - 1) (by rw [List.mem_range]; omega)
       rw [show pre.length+(i - pre.length - 1)+1=i from by omega,ho'] at this
       exact hsuf _ (by omega) (g3 _ this)
      ·have hie:i=pre.length:=by omega
       have hne:suf.isEmpty=false:=by
        cases suf with
        | nil=>simp at g1; omega
        | cons _ _=>rfl
       rw [hne,Bool.false_or] at hfirst
       obtain⟨k,hk1,hk2⟩:=hex
       have:=List.all_eq_true.1 hfirst k (List.mem_range.2 hk1)
       rw [←hie] at this
       exact hk2 (zfI hmk hback hI.closed i o ho' g3 k this)
    have hpi:pre[i]?=some o:=by rw [List.getElem?_append_left him] at ho'; exact ho'
    obtain⟨x,S1,hxi,hxd,hloc,hOb,q,hq⟩:=hall i o hpi
    obtain⟨S',hS'⟩:∃ S',S1++S0=S':=⟨_,rfl⟩
    rw [hS'] at hOb hq
    rw [Nat.zero_add] at hOb hxi
    have hxS:x∈S:=by rw [hq]; simp
    have hsubS:∀ y∈S',y∈S:=fun y hy=>by rw [hq]; simp [hy]
    have hq0:q0=q++x :: S1:=by
     have e:=hS.symm.trans hq
     rw [←hS',show q++x :: (S1++S0)=(q++x :: S1)++S0 from by simp] at e
     exact List.append_cancel_right e
    have hsort:(q.map (·.i))++i :: (S1.map (·.i))=(List.range' 0 pre.length).reverse:=by
     rw [←hS1,hq0,List.map_append,List.map_cons,hxi]
    have hdesc:((q.map (·.i))++i :: (S1.map (·.i))).Pairwise (· > ·):=by
     rw [hsort,List.pairwise_reverse]
     exact List.pairwise_lt_range'
    rw [List.pairwise_append,List.pairwise_cons] at hdesc
    have hgt:∀ y∈q,i < y.i:=fun y hy=>hdesc.2.2 _ (List.mem_map.2 ⟨y,hy,rfl⟩) _ (List.mem_cons_self ..)
    have hlt:∀ y∈S',y.i < N→y.i < i:=fun y hy hyN=>by
     rw [←hS'] at hy
     rcases List.mem_append.1 hy with hy | hy
     ·exact hdesc.2.1.1 _ (List.mem_map.2 ⟨y,hy,rfl⟩)
     ·have:=hS0 y hy; omega
    have hqN:∀ y∈q,y.i < N:=fun y hy=>by
     have hjm:y.i∈q0.map (·.i):=List.mem_map.2 ⟨y,by rw [hq0]; exact List.mem_append_left _ hy,rfl⟩
     rw [hS1,List.mem_reverse,List.mem_range'_1] at hjm
     omega
    have hiN:i < N:=by omega
    have hrc:∀ j,rcf ms i j=true→isOn listed j:=fun j hj=>zfI hmk hback hI.closed i o ho' g3 j hj
    have hilt:i < listed.size:=by omega
    have hnd:zfO o=false:=by
     have:=List.all_eq_true.1 hdef o (List.mem_of_getElem? (hpre i o hpi))
     simpa using this
    have hcont:∀ (a':Act) (w':World),Inv4 c ds (pre++suf) pre T0 H S N (listed.setIfInBounds i true) a' w'→wpAnyIn (FW c.r) 0 c.P .any (pre++suf).toArray p.Q fuel (listed.setIfInBounds i true) a' w':=by
     intro a' w' hI'
     refine ih _ _ _ ?_ (by simp [hsz]) (fun k hk hon=>?_) hI'
     ·have:=zkI (l:=List.range (pre++suf).length) (q:=fun i=>!listed.getD i false) (q':=fun k=>!(listed.setIfInBounds i true).getD k false) (i:=i) ?_ (List.mem_range.2 g1) ?_ ?_
      ·omega
      ·intro x hx'
       have:¬ isOn (listed.setIfInBounds i true) x:=by unfold isOn; simpa using hx'
       have:¬ isOn listed x:=fun h=>this ((zbt hilt x).2 (.inr h))
       unfold isOn at this
       simpa using this
      ·unfold isOn at g2; simpa using g2
      ·have:isOn (listed.setIfInBounds i true) i:=(zbt hilt i).2 (.inl rfl)
       unfold isOn at this
       simp only [this]; rfl
     ·rcases(zbt hilt k).1 hon with rfl | h
      ·omega
      ·exact hsuf k hk h
    obtain⟨ρ,B,hv,hs⟩:=hI.fam
    have hsat:=hI.sat hv hpre g2 g3 hsubS
    obtain⟨hhp,hview⟩:=hI.shown hE hs g2 hrc hrcl hxi hq hgt hqN hiN
    have hother:∀ y∈S,y.i=i→y=x:=fun y hy hyi=>hE.uniq y hy x hxS (hyi.trans hxi.symm)
    have hslot0:x.t=none→∀ j,zbe ρ (onB N (listed.setIfInBounds i true)) j S=zbe ρ (onB N listed) j S:=fun ht j=>by
     refine zbN S fun y hy hyt=>⟨?_,fun _=>rfl⟩
     rw [zeh hilt]
     have:y.i≠i:=fun e=>by
      rw [hother y hy e,ht] at hyt
      cases hyt
     have hb:Nat.beq y.i i=false:=by
      cases hb:Nat.beq y.i i with
      | false=>rfl
      | true=>exact absurd (Nat.eq_of_beq_eq_true hb) this
     rw [hb,Bool.false_or]
    have hdo:∀ d,x.d=some d→d < c.n∧∀ j oj,pre[j]?=some oj→j≠i→oj.dst≠some d:=fun d hd=>by
     rw [hxd] at hd
     refine⟨?_,fun j oj hj hji=>zef pre hdst i j o oj hpi hj (Ne.symm hji) d hd⟩
     have:=List.all_eq_true.1 hok o (List.mem_of_getElem? hpi)
     rw [hd] at this
     exact Nat.le_of_ble_eq_true this
    have hpure:∀ (v:Value) (w':World),x.t=none→x.d.isSome=true→v=x.V ρ→Ext w w'→wpAnyIn (FW c.r) 0 c.P .any (pre++suf).toArray p.Q fuel (listed.setIfInBounds i true) (a.put o.dst v) w':=by
     intro v w' ht hds hveq hx
     obtain⟨d,hd⟩:=Option.isSome_iff_exists.1 hds
     obtain⟨hdn,hdist⟩:=hdo d hd
     have hod:o.dst=some d:=by rw [←hxd,hd]
     rw [hod]
     exact hcont _ _ (hI.put hE hxS hxi hpi ho' hilt hod hd hdist hdn g3 (hI.base.ext hx) hveq (fun y hy hon _ d' hd'=>hv y hy hon d' hd') ((hs.congr (hslot0 ht)).ext hx))
    have hgo:Go4 N c ds pre ms T0 H i o S' x→o.wpIn (FW c.r) 0 c.P a w (wpAnyIn (FW c.r) 0 c.P .any (pre++suf).toArray p.Q fuel (listed.setIfInBounds i true)) p.Q:=by
     rintro ((⟨ht,hds,hY⟩ | ⟨ht,hds,V,A,hVx,hAx,hVA,hY⟩ | ⟨hds,j,ht,hij,hrq,hY⟩) | ⟨hds,j,ht,hjN,hch,hY⟩ | ⟨hds,j,ht,hjN,hch,V,A,hVx,hAx,hY⟩)
     ·refine za9 hnd ((hY ρ).run a w hsat hhp) fun v w' hvw=>?_
      exact hpure v w' ht hds hvw.1 hvw.2
     ·refine za9 hnd ((hY ρ).run a w hsat hhp) fun v w' hvw=>?_
      obtain⟨u,rfl,hx,Bn,hBn,hA⟩:=hvw
      obtain⟨d,hd⟩:=Option.isSome_iff_exists.1 hds
      obtain⟨hdn,hdist⟩:=hdo d hd
      have hod:o.dst=some d:=by rw [←hxd,hd]
      rw [hod]
      let ρ':(i:Nat)→XS i:=fun k=>if h:k=i then h ▸ u else ρ k
      have hρi:ρ' i=u:=by simp [ρ']
      have hρk:∀ k,k≠i→ρ' k=ρ k:=fun k hk=>by simp [ρ',hk]
      have hsame:∀ y∈S,isOn listed y.i→y.V ρ' = y.V ρ∧y.A ρ' = y.A ρ:=fun y hy hon=>by
       refine hE.loc y hy (Nat.lt_of_not_le fun h=>hsuf y.i (by omega) hon) ρ' ρ fun k hk=>hρk k fun e=>?_
       subst e
       rcases hk with hk | hk
       ·exact g2 (hrcl _ hon _ hk)
       ·rw [←hk] at hon; exact g2 hon
      have hsameA:∀ y∈S,onB N listed y.i=true→y.A ρ' = y.A ρ:=fun y hy hon=>by
       rcases Nat.lt_or_ge y.i N with h | h
       ·exact(hsame y hy (zhA h hon)).2
       ·exact(hE.bs y hy h).2.2 _ _
      have hVA':=hVA ρ' ρ (fun k hk=>hρk k (fun e=>by have:=zhm hk; omega))
      have hxV:x.V ρ' = V ρ u:=by rw [hVx,hVA'.1,hρi]
      have hxA:x.A ρ' = A ρ u:=by rw [hAx,hVA'.2,hρi]
      have hsl:∀ j,zbe ρ' (onB N (listed.setIfInBounds i true)) j S=if j=i then some (A ρ u) else zbe ρ (onB N listed) j S:=fun j=>by
       by_cases hji:j=i
       ·rw [if_pos hji,hq,hji]
        rw [zb0 q]
        ·show(bif tIs x.t i&&onB N (listed.setIfInBounds i true) x.i then some (x.A ρ') else zbe ρ' _ i S')=_
         rw [ht,hxi,zeh hilt,Nat.beq_refl,hxA]
         show(bif Nat.beq i i&&true then _ else _)=_
         rw [Nat.beq_refl]; rfl
        ·intro y hy hyt
         have hyS:y∈S:=by rw [hq]; exact List.mem_append_left _ hy
         have hgi:=hgt y hy
         have h1:rcf ms y.i i=true:=by
          rcases(hE.sto y hyS i (zcq.1 hyt) (by omega)).2 with ⟨_,h1,_⟩ | ⟨h1,_⟩
          ·exact h1
          ·omega
         rw [zeh hilt]
         have hb:Nat.beq y.i i=false:=by
          cases hb:Nat.beq y.i i with
          | false=>rfl
          | true=>have:=Nat.eq_of_beq_eq_true hb; omega
         rw [hb,Bool.false_or]
         cases ho2:onB N listed y.i with
         | false=>rfl
         | true=>exact absurd (hrcl y.i (zhA (hqN y hy) ho2) i h1) g2
       ·rw [if_neg hji]
        refine zbN S fun y hy hyt=>?_
        have hyi:y.i≠i:=fun e=>by
         rw [hother y hy e,ht] at hyt
         exact hji (Option.some.inj (zcq.1 hyt)).symm
        have hb:Nat.beq y.i i=false:=by
         cases hb:Nat.beq y.i i with
         | false=>rfl
         | true=>exact absurd (Nat.eq_of_beq_eq_true hb) hyi
        have he:onB N (listed.setIfInBounds i true) y.i=onB N listed y.i:=by rw [zeh hilt,hb,Bool.false_or]
        exact⟨he,fun hon=>hsameA y hy (by rw [←he]; exact hon)⟩
      exact hcont _ _ (hI.put hE hxS hxi hpi ho' hilt hod hd hdist hdn g3 (hI.base.ext hx) hxV.symm (fun y hy hon _ d' hd'=>by rw [(hsame y hy hon).1]; exact hv y hy hon d' hd') ((hs.new hI.base hx i hBn hA).congr hsl))
     ·obtain⟨R,hR,hSO⟩:=hY ρ
      have hod:o.dst=none:=by rw [←hxd,hds]
      have hjlt:=zhm hij
      have hGj:zbe ρ (onB N listed) j S=some R:=by
       rw [←hview j ?_ hij]; exact hR
       have key:∀ (L:List (E3 XS)),(∀ y∈L,y∈S')→okSt (rcf ms i) j L=true:=by
        intro L
        induction L with
        | nil=>intro _; rfl
        | cons y L ihL=>
         intro hL
         have hy:=hL y (List.mem_cons_self ..)
         show(((!tIs y.t j||rcf ms i y.i))&&okSt (rcf ms i) j L)=true
         rw [ihL (fun z hz=>hL z (List.mem_cons_of_mem _ hz)),Bool.and_true]
         cases hyt:tIs y.t j with
         | false=>rfl
         | true=>
          show rcf ms i y.i=true
          by_cases hyj:j=y.i
          ·rw [←hyj]; exact hij
          ·obtain⟨hyN,hst⟩:=hE.sto y (hsubS y hy) j (zcq.1 hyt) hyj
           have h1:rcf ms y.i j=true:=by
            rcases hst with ⟨_,h1,_⟩ | ⟨h1,_⟩
            ·exact h1
            ·omega
           have:=List.all_eq_true.1 hrq y.i (List.mem_range.2 (hlt y hy hyN))
           rw [h1] at this
           simpa using this
       exact key S' (fun _ h=>h)
      obtain⟨g4,g5⟩:=hs.own j R hGj
      refine za9 hnd (hSO.run a w (B j) hsat ⟨hI.base,?_⟩ (fun k hk=>(g5 k hk).2) g4) fun v w' hvw=>?_
      ·exact Holds.anti H (fun k hk=>.inl hk) hs.out
      obtain⟨hm,B',ho2,hA'⟩:=hvw
      rw [hod]
      obtain⟨hb',hs'⟩:=hs.upd hGj hI.base hm ho2 hA'
      have hsl:∀ k,zbe ρ (onB N (listed.setIfInBounds i true)) k S=if k=j then some (x.A ρ) else zbe ρ (onB N listed) k S:=fun k=>by
       by_cases hkj:k=j
       ·rw [if_pos hkj,hq,hkj]
        rw [zb0 q]
        ·show(bif tIs x.t j&&onB N (listed.setIfInBounds i true) x.i then some (x.A ρ) else zbe ρ _ j S')=_
         rw [ht,hxi,zeh hilt,Nat.beq_refl]
         show(bif Nat.beq j j&&true then _ else _)=_
         rw [Nat.beq_refl]; rfl
        ·intro y hy hyt
         have hyS:y∈S:=by rw [hq]; exact List.mem_append_left _ hy
         have hgi:=hgt y hy
         have h1:rcf ms y.i i=true:=by
          rcases(hE.sto y hyS j (zcq.1 hyt) (by omega)).2 with ⟨_,_,h1⟩ | ⟨h1,_⟩
          ·exact h1 i hgi hij
          ·omega
         rw [zeh hilt]
         have hb:Nat.beq y.i i=false:=by
          cases hb:Nat.beq y.i i with
          | false=>rfl
          | true=>have:=Nat.eq_of_beq_eq_true hb; omega
         rw [hb,Bool.false_or]
         cases ho3:onB N listed y.i with
         | false=>rfl
         | true=>exact absurd (hrcl y.i (zhA (hqN y hy) ho3) i h1) g2
       ·rw [if_neg hkj]
        refine zbN S fun y hy hyt=>⟨?_,fun _=>rfl⟩
        have hyi:y.i≠i:=fun e=>by
         rw [hother y hy e,ht] at hyt
         exact hkj (Option.some.inj (zcq.1 hyt)).symm
        have hb:Nat.beq y.i i=false:=by
         cases hb:Nat.beq y.i i with
         | false=>rfl
         | true=>exact absurd (Nat.eq_of_beq_eq_true hb) hyi
        rw [zeh hilt,hb,Bool.false_or]
      have hon:∀ j,isOn (listed.setIfInBounds i true) j↔j=i∨isOn listed j:=zbt hilt
      refine hcont _ _ ⟨hb',hI.size,hI.defers,zem hI.closed ho' hilt g3,fun s u hs0 hno=>hI.old s u hs0 (fun k ok hk hlk=>hno k ok hk ((hon k).2 (.inr hlk))),ρ,_,fun y hy hoy d' hd'=>?_,hs'.congr hsl⟩
      have hyi:y.i≠i:=fun e=>by rw [hother y hy e,hds] at hd'; cases hd'
      exact hv y hy (((hon y.i).1 hoy).resolve_left hyi) d' hd'
     ·obtain⟨R,hR,hSO⟩:=hY ρ
      have hod:o.dst=none:=by rw [←hxd,hds]
      have hjN:=Nat.le_of_ble_eq_true hjN
      have hGj:zbe ρ (onB N listed) j S=some R:=by
       rw [hq,show q++x :: S' = (q++[x])++S' from by simp,zb0 (q++[x]) S',←hR]
       ·refine zbN S' fun y hy hyt=>⟨?_,fun _=>rfl⟩
        have h3:=List.all_eq_true.1 hch y hy
        rw [hyt] at h3
        show onB N listed y.i=(Nat.ble N y.i||rcf ms i y.i)
        rcases Nat.lt_or_ge y.i N with h | h
        ·have h4:Nat.ble N y.i=false:=by
          cases hb:Nat.ble N y.i with
          | false=>rfl
          | true=>have:=Nat.le_of_ble_eq_true hb; omega
         rw [h4] at h3 ⊢
         have h5:rcf ms i y.i=true:=by simpa using h3
         rw [zqk (hrc _ h5),h5]; rfl
        ·rw [zkd h,Nat.ble_eq_true_of_le h]; rfl
       ·intro y hy hyt
        rcases List.mem_append.1 hy with hy | hy
        ·have hyN:=hqN y hy
         have hgi:=hgt y hy
         refine ziu hyN fun hon=>?_
         have hyS:y∈S:=by rw [hq]; exact List.mem_append_left _ hy
         rcases(hE.sto y hyS j (zcq.1 hyt) (by omega)).2 with ⟨h1,_⟩ | ⟨_,h1⟩
         ·omega
         ·have:=h1 x hxS ht (by omega)
          rw [hxi] at this
          exact g2 (hrcl y.i hon i this)
        ·rw [List.mem_singleton.1 hy,hxi]; exact ziu hiN g2
      obtain⟨g4,g5⟩:=hs.own j R hGj
      refine za9 hnd (hSO.run a w (B j) hsat ⟨hI.base,?_⟩ (fun k hk=>(g5 k hk).2) g4) fun v w' hvw=>?_
      ·exact Holds.anti H (fun k hk=>.inl hk) hs.out
      obtain⟨hm,B',ho2,hA'⟩:=hvw
      rw [hod]
      obtain⟨hb',hs'⟩:=hs.upd hGj hI.base hm ho2 hA'
      have hsl:∀ k,zbe ρ (onB N (listed.setIfInBounds i true)) k S=if k=j then some (x.A ρ) else zbe ρ (onB N listed) k S:=fun k=>by
       by_cases hkj:k=j
       ·rw [if_pos hkj,hq,hkj]
        rw [zb0 q]
        ·show(bif tIs x.t j&&onB N (listed.setIfInBounds i true) x.i then some (x.A ρ) else zbe ρ _ j S')=_
         rw [ht,hxi,zeh hilt,Nat.beq_refl]
         show(bif Nat.beq j j&&true then _ else _)=_
         rw [Nat.beq_refl]; rfl
        ·intro y hy hyt
         have hyS:y∈S:=by rw [hq]; exact List.mem_append_left _ hy
         have hgi:=hgt y hy
         have h1:rcf ms y.i i=true:=by
          have hyN:=hqN y hy
          rcases(hE.sto y hyS j (zcq.1 hyt) (by omega)).2 with ⟨h1,_⟩ | ⟨_,h1⟩
          ·omega
          ·have:=h1 x hxS ht (by omega)
           rwa [hxi] at this
         rw [zeh hilt]
         have hb:Nat.beq y.i i=false:=by
          cases hb:Nat.beq y.i i with
          | false=>rfl
          | true=>have:=Nat.eq_of_beq_eq_true hb; omega
         rw [hb,Bool.false_or]
         cases ho3:onB N listed y.i with
         | false=>rfl
         | true=>exact absurd (hrcl y.i (zhA (hqN y hy) ho3) i h1) g2
       ·rw [if_neg hkj]
        refine zbN S fun y hy hyt=>⟨?_,fun _=>rfl⟩
        have hyi:y.i≠i:=fun e=>by
         rw [hother y hy e,ht] at hyt
         exact hkj (Option.some.inj (zcq.1 hyt)).symm
        have hb:Nat.beq y.i i=false:=by
         cases hb:Nat.beq y.i i with
         | false=>rfl
         | true=>exact absurd (Nat.eq_of_beq_eq_true hb) hyi
        rw [zeh hilt,hb,Bool.false_or]
      have hon:∀ j,isOn (listed.setIfInBounds i true) j↔j=i∨isOn listed j:=zbt hilt
      refine hcont _ _ ⟨hb',hI.size,hI.defers,zem hI.closed ho' hilt g3,fun s u hs0 hno=>hI.old s u hs0 (fun k ok hk hlk=>hno k ok hk ((hon k).2 (.inr hlk))),ρ,_,fun y hy hoy d' hd'=>?_,hs'.congr hsl⟩
      have hyi:y.i≠i:=fun e=>by rw [hother y hy e,hds] at hd'; cases hd'
      exact hv y hy (((hon y.i).1 hoy).resolve_left hyi) d' hd'
     ·obtain⟨R,hR,hSO⟩:=hY ρ
      obtain⟨d,hd⟩:=Option.isSome_iff_exists.1 hds
      obtain⟨hdn,hdist⟩:=hdo d hd
      have hod:o.dst=some d:=by rw [←hxd,hd]
      have hjN:=Nat.le_of_ble_eq_true hjN
      have hGj:zbe ρ (onB N listed) j S=some R:=by
       rw [hq,show q++x :: S' = (q++[x])++S' from by simp,zb0 (q++[x]) S',←hR]
       ·refine zbN S' fun y hy hyt=>⟨?_,fun _=>rfl⟩
        have h3:=List.all_eq_true.1 hch y hy
        rw [hyt] at h3
        show onB N listed y.i=(Nat.ble N y.i||rcf ms i y.i)
        rcases Nat.lt_or_ge y.i N with h | h
        ·have h4:Nat.ble N y.i=false:=by
          cases hb:Nat.ble N y.i with
          | false=>rfl
          | true=>have:=Nat.le_of_ble_eq_true hb; omega
         rw [h4] at h3 ⊢
         have h5:rcf ms i y.i=true:=by simpa using h3
         rw [zqk (hrc _ h5),h5]; rfl
        ·rw [zkd h,Nat.ble_eq_true_of_le h]; rfl
       ·intro y hy hyt
        rcases List.mem_append.1 hy with hy | hy
        ·have hyN:=hqN y hy
         have hgi:=hgt y hy
         refine ziu hyN fun hon=>?_
         have hyS:y∈S:=by rw [hq]; exact List.mem_append_left _ hy
         rcases(hE.sto y hyS j (zcq.1 hyt) (by omega)).2 with ⟨h1,_⟩ | ⟨_,h1⟩
         ·omega
         ·have:=h1 x hxS ht (by omega)
          rw [hxi] at this
          exact g2 (hrcl y.i hon i this)
        ·rw [List.mem_singleton.1 hy,hxi]; exact ziu hiN g2
      obtain⟨g4,g5⟩:=hs.own j R hGj
      refine za9 hnd (hSO.run a w (B j) hsat ⟨hI.base,?_⟩ (fun k hk=>(g5 k hk).2) g4) fun v w' hvw=>?_
      ·exact Holds.anti H (fun k hk=>.inl hk) hs.out
      obtain⟨u,rfl,hm,B',ho2,hA'⟩:=hvw
      rw [hod]
      obtain⟨hb',hs'⟩:=hs.upd hGj hI.base hm ho2 hA'
      let ρ':(i:Nat)→XS i:=fun k=>if h:k=i then h ▸ u else ρ k
      have hρi:ρ' i=u:=by simp [ρ']
      have hρk:∀ k,k≠i→ρ' k=ρ k:=fun k hk=>by simp [ρ',hk]
      have hsame:∀ y∈S,isOn listed y.i→y.V ρ' = y.V ρ∧y.A ρ' = y.A ρ:=fun y hy hon=>by
       refine hE.loc y hy (Nat.lt_of_not_le fun h=>hsuf y.i (by omega) hon) ρ' ρ fun k hk=>hρk k fun e=>?_
       subst e
       rcases hk with hk | hk
       ·exact g2 (hrcl _ hon _ hk)
       ·rw [←hk] at hon; exact g2 hon
      have hsameA:∀ y∈S,onB N listed y.i=true→y.A ρ' = y.A ρ:=fun y hy hon=>by
       rcases Nat.lt_or_ge y.i N with h | h
       ·exact(hsame y hy (zhA h hon)).2
       ·exact(hE.bs y hy h).2.2 _ _
      have hxV:x.V ρ' = V u:=by rw [hVx,hρi]
      have hxA:x.A ρ' = A u:=by rw [hAx,hρi]
      have hsl:∀ k,zbe ρ' (onB N (listed.setIfInBounds i true)) k S=if k=j then some (A u) else zbe ρ (onB N listed) k S:=fun k=>by
       by_cases hkj:k=j
       ·rw [if_pos hkj,hq,hkj]
        rw [zb0 q]
        ·show(bif tIs x.t j&&onB N (listed.setIfInBounds i true) x.i then some (x.A ρ') else zbe ρ' _ j S')=_
         rw [ht,hxi,zeh hilt,Nat.beq_refl,hxA]
         show(bif Nat.beq j j&&true then _ else _)=_
         rw [Nat.beq_refl]; rfl
        ·intro y hy hyt
         have hyS:y∈S:=by rw [hq]; exact List.mem_append_left _ hy
         have hgi:=hgt y hy
         have h1:rcf ms y.i i=true:=by
          have hyN:=hqN y hy
          rcases(hE.sto y hyS j (zcq.1 hyt) (by omega)).2 with ⟨h1,_⟩ | ⟨_,h1⟩
          ·omega
          ·have:=h1 x hxS ht (by omega)
           rwa [hxi] at this
         rw [zeh hilt]
         have hb:Nat.beq y.i i=false:=by
          cases hb:Nat.beq y.i i with
          | false=>rfl
          | true=>have:=Nat.eq_of_beq_eq_true hb; omega
         rw [hb,Bool.false_or]
         cases ho3:onB N listed y.i with
         | false=>rfl
         | true=>exact absurd (hrcl y.i (zhA (hqN y hy) ho3) i h1) g2
       ·rw [if_neg hkj]
        refine zbN S fun y hy hyt=>?_
        have hyi:y.i≠i:=fun e=>by
         rw [hother y hy e,ht] at hyt
         exact hkj (Option.some.inj (zcq.1 hyt)).symm
        have hb:Nat.beq y.i i=false:=by
         cases hb:Nat.beq y.i i with
         | false=>rfl
         | true=>exact absurd (Nat.eq_of_beq_eq_true hb) hyi
        have he:onB N (listed.setIfInBounds i true) y.i=onB N listed y.i:=by rw [zeh hilt,hb,Bool.false_or]
        exact⟨he,fun hon=>hsameA y hy (by rw [←he]; exact hon)⟩
      exact hcont _ _ (hI.put hE hxS hxi hpi ho' hilt hod hd hdist hdn g3 hb' hxV.symm (fun y hy hon _ d' hd'=>by rw [(hsame y hy hon).1]; exact hv y hy hon d' hd') (hs'.congr hsl))
    unfold wpOpIn
    rw [ho]
    simp only []
    unfold Ob4 at hOb
    cases hg:o.guard with
    | none=>
     rw [hg] at hOb
     rw [if_pos (by simp [Region.wanted,hg])]
     exact hgo hOb
    | some gw=>
     obtain⟨j,want⟩:=gw
     rw [hg] at hOb
     have hyl:∀ V0,lk3 S' j=some V0→zaT o j=true→∀ b:Bool,yielded (pre++suf).toArray a.tmps j=some b↔V0 ρ=.bool b:=fun V0 hlk hbj b=>by
      obtain⟨y,hy,hyj,hyd,hyV⟩:=zmj S' j _ hlk
      obtain⟨d,hd⟩:=Option.isSome_iff_exists.1 hyd
      obtain⟨oj,hoj,hdj⟩:=hE.op y (hsubS y hy) (Nat.lt_of_not_le fun h=>by rw [(hE.bs y (hsubS y hy) h).1] at hyd; cases hyd)
      have hval:=hv y (hsubS y hy) (by rw [hyj]; exact g3 j hbj) d hd
      rw [hyj] at hoj
      rw [←hyV]
      exact zd2 (by simpa using hpre j oj hoj) (by rw [hdj,hd]) hval
     rcases hOb with ⟨V0,hlk,hV0,hbj,hGo⟩ | ⟨V0,u0,qb,u,hlk,hV0,hbj,hq0,ht,hds,hxV,hst⟩
     ·rw [if_pos (by simp only [Region.wanted,hg]; rw [(hyl V0 hlk hbj want).2 (hV0 ρ)]; simp)]
      exact hgo hGo
     ·have hy:=hyl V0 hlk hbj want
      rw [hV0] at hy
      cases hqq:qb with
      | true=>
       rw [if_pos (by simp only [Region.wanted,hg]; rw [hy.2 (hq0.1 hqq)]; simp)]
       refine za9 hnd ((hst hqq ρ).run a w hsat hhp) fun v w' hvw=>?_
       exact hpure v w' ht hds (by rw [hxV,if_pos hqq]; exact hvw.1) hvw.2
      | false=>
       have hnw:¬ yielded (pre++suf).toArray a.tmps j=some want:=fun h=>by
        have:=hq0.2 (hy.1 h)
        rw [hqq] at this
        cases this
       rw [if_neg (by simp only [Region.wanted,hg]; simpa using hnw)]
       refine⟨fun _ _=>trivial,?_⟩
       exact hpure undef w ht hds (by rw [hxV,if_neg (by simp [hqq])]) Ext.rfl
theorem zju {N:Nat} {listed:Array Bool} {ρ:(i:Nat)→XS i} {w:World}:∀ (Hb:List Res) (k:Nat) (G:Nat→Option Res) (B:Nat→Nat→Prop),Slots c (Hb++H) G B w→(∀ j,N+k≤j→G j=none) →
  ∃ B',Slots c H (fun j=>match zbe ρ (onB N listed) j (zeU N k Hb) with | some R=>some R | none=>G j) B' w
 | [],k,G,B,h,_=>⟨B,h⟩
 | R :: r,k,G,B,h,hG=>by
  obtain⟨C,hC,hA,hr⟩:=h.out
  have h2:Slots c (r++H) (fun j=>if j=N+k then some R else G j) (fun j=>if j=N+k then C else B j) w:=by
   refine⟨fun j S hj=>?_,fun a b ha hb hab x hx1 hx2=>?_,?_⟩
   ·by_cases e:j=N+k
    ·simp only [if_pos e,Option.some.injEq] at hj ⊢
     subst hj
     exact⟨hA,fun x hx=>⟨fun hu=>(hC x hx).1 (.inl hu),(hC x hx).2⟩⟩
    ·simp only [if_neg e] at hj ⊢
     exact h.own j S hj
   ·by_cases ea:a=N+k
    ·have eb:b≠N+k:=fun e=>hab (ea.trans e.symm)
     simp only [if_pos ea] at hx1
     simp only [if_neg eb] at hb hx2
     exact(hC x hx1).1 (.inr ⟨b,hb,hx2⟩)
    ·simp only [if_neg ea] at ha hx1
     by_cases eb:b=N+k
     ·simp only [if_pos eb] at hx2
      exact(hC x hx2).1 (.inr ⟨a,ha,hx1⟩)
     ·simp only [if_neg eb] at hb hx2
      exact h.dis a b ha hb hab x hx1 hx2
   ·refine Holds.anti _ ?_ hr
    rintro x (hu | ⟨j,hj,hx⟩)
    ·exact .inl (.inl hu)
    ·by_cases e:j=N+k
     ·simp only [if_pos e] at hx
      exact .inr hx
     ·simp only [if_neg e] at hj hx
      exact .inl (.inr ⟨j,hj,hx⟩)
  obtain⟨B',h3⟩:=zju (ρ:=ρ) (listed:=listed) r (k+1) (fun j=>if j=N+k then some R else G j) (fun j=>if j=N+k then C else B j) h2 (fun j (hj:N+(k+1)≤j)=>by
   show(if j=N+k then some R else G j)=none
   rw [if_neg (by omega)]; exact hG j (by omega))
  refine⟨B',h3.congr fun j=>?_⟩
  show(match (bif tIs (some (N+k)) j&&onB N listed (N+k) then some R else zbe ρ (onB N listed) j (zeU N (k+1) r)) with | some R=>some R | none=>G j)=_
  rw [zkd (Nat.le_add_right N k),Bool.and_true]
  by_cases e:j=N+k
  ·subst e
   have h4:zbe ρ (onB N listed) (N+k) (zeU N (k+1) r)=none:=by
    cases hs:zbe ρ (onB N listed) (N+k) (zeU N (k+1) r) with
    | none=>rfl
    | some Q=>
     obtain⟨x,hx,hxt,_⟩:=zgb _ hs
     obtain⟨h5,_,h6,_⟩:=zel hx
     rw [zcq,h6,Option.some.injEq] at hxt
     omega
   rw [h4,zcq.2 rfl]
   simp
  ·have h4:tIs (some (N+k)) j=false:=by
    cases hb:tIs (some (N+k)) j with
    | false=>rfl
    | true=>exact absurd (Option.some.inj (zcq.1 hb)).symm e
   rw [h4]
   simp [e]
theorem zpM {id:Nat} {l:List Oper} {d:Bool} (Hb:List Res) (XS:Nat→Type) (N m:Nat) (ms:List Nat) (hN:Nat.ble l.length N=true) (hm:d=true→c.P.follows .mixedOrders=true) (hc:zeY c.n (l.take m) (l.drop m) ms=true) (hρ:Nonempty ((i:Nat)→XS i))
  (h:PH4 (XS:=XS) N c ds (l.take m) ms T0 H (fun S=>∀ ρ:(i:Nat)→XS i,GK c ds (KL c l.toArray p (l.drop m)) (zdA ρ (fun _=>true) S++zd3 (l.take m) T0) (zeS ρ (fun _=>true) S S++H)) 0 (l.take m) (zeU N 0 Hb)):GK c ds (KC c (.region id l.toArray d) p) T0 (Hb++H):=by
 intro a w ha hw
 obtain⟨ρ0⟩:=hρ
 obtain⟨S,hK,⟨q,hq,hq2⟩,hall⟩:=zqo _ _ _ h
 have hl:l.take m++l.drop m=l:=List.take_append_drop m l
 have hlN:(l.take m++l.drop m).length≤N:=by rw [hl]; exact Nat.le_of_ble_eq_true hN
 have hmN:(l.take m).length≤N:=by rw [List.length_append] at hlN; omega
 have hS0:∀ x∈zeU (XS:=XS) N 0 Hb,N≤x.i:=fun x hx=>by have:=(zel hx).1; omega
 have hqi:∀ x∈q,x.i < (l.take m).length:=fun x hx=>by
  have hjm:x.i∈q.map (·.i):=List.mem_map.2 ⟨_,hx,rfl⟩
  rw [hq2,List.mem_reverse,List.mem_range'_1] at hjm
  omega
 have hnd0:(q.map (·.i)).Nodup:=by
  rw [hq2]
  unfold List.Nodup
  rw [List.pairwise_reverse]
  exact(List.nodup_range' (s:=0) (n:=(l.take m).length) (step:=1)).imp Ne.symm
 have hnd:(S.map (·.i)).Nodup:=by
  rw [hq,List.map_append,List.nodup_append]
  refine⟨hnd0,zmW Hb 0,fun a ha b hb=>?_⟩
  obtain⟨x,hx,rfl⟩:=List.mem_map.1 ha
  obtain⟨y,hy,rfl⟩:=List.mem_map.1 hb
  have:=hqi x hx
  have:=hS0 y hy
  omega
 have hsplit:∀ x∈S,x.i < N→x∈q:=fun x hx hxN=>by
  rw [hq] at hx
  rcases List.mem_append.1 hx with hx | hx
  ·exact hx
  ·have:=hS0 x hx; omega
 have hbase:∀ x∈S,N≤x.i→x∈zeU (XS:=XS) N 0 Hb:=fun x hx hxN=>by
  rw [hq] at hx
  rcases List.mem_append.1 hx with hx | hx
  ·have:=hqi x hx; omega
  ·exact hx
 have hx:∀ x∈S,x.i < N→∃ o S1 q',(l.take m)[x.i]?=some o∧x.d=o.dst∧Loc3 ms x∧Ob4 N c ds (l.take m) ms T0 H x.i o (S1++zeU N 0 Hb) x∧S=q' ++ x :: (S1++zeU N 0 Hb):=fun x hx hxN=>by
  have hlt:x.i < (l.take m).length:=hqi x (hsplit x hx hxN)
  obtain⟨y,S1,hyi,hyd,hyl,hyo,q',hq'⟩:=hall x.i (l.take m)[x.i] (List.getElem?_eq_getElem hlt)
  rw [Nat.zero_add] at hyi hyo
  have hyS:y∈S:=by rw [hq']; simp
  have key:∀ (L:List (E3 XS)),(L.map (·.i)).Nodup→∀ x∈L,∀ y∈L,x.i=y.i→x=y:=by
   intro L
   induction L with
   | nil=>intro _ x hx; cases hx
   | cons z r ih=>
    intro hn x hx y hy hxy
    simp only [List.map_cons,List.nodup_cons] at hn
    rcases List.mem_cons.1 hx with rfl | hx' <;> rcases List.mem_cons.1 hy with rfl | hy'
    ·rfl
    ·exact absurd (List.mem_map.2 ⟨y,hy',hxy.symm⟩) hn.1
    ·exact absurd (List.mem_map.2 ⟨x,hx',hxy⟩) hn.1
    ·exact ih hn.2 x hx' y hy' hxy
  have:y=x:=key S hnd y hyS x hx hyi
  subst this
  exact⟨_,S1,q',List.getElem?_eq_getElem hlt,hyd,hyl,hyo,hq'⟩
 have hE:Ents4 N ms (l.take m) S:=by
  refine⟨hnd,fun x hxS hxN=>?_,fun x hxS hxN=>(zel (hbase x hxS hxN)).2,fun x hxS hxN=>?_,fun x hxS j hj hne=>?_⟩
  ·obtain⟨o,_,_,h1,h2,_⟩:=hx x hxS hxN
   exact⟨o,h1,h2.symm⟩
  ·obtain⟨_,_,_,_,_,h3,_⟩:=hx x hxS hxN
   exact h3
  ·have hxN:x.i < N:=Nat.lt_of_not_le fun h=>by
    obtain⟨_,_,h3,_⟩:=zel (hbase x hxS h)
    rw [h3,Option.some.injEq] at hj
    exact hne hj.symm
   refine⟨hxN,?_⟩
   obtain⟨o,S1,q',_,_,_,h4,h5⟩:=hx x hxS hxN
   rcases zxs h4 rfl hxN j hj hne with h6 | ⟨h6,h7⟩
   ·exact .inl h6
   ·refine .inr ⟨h6,fun y hy hyt hyx=>h7 y ?_ hyt (by omega)⟩
    have hqq:q=q' ++ x :: S1:=by
     have e:=hq.symm.trans h5
     rw [show q' ++ x :: (S1++zeU N 0 Hb)=(q' ++ x :: S1)++zeU N 0 Hb from by simp] at e
     exact List.append_cancel_right e
    have hdesc:((q'.map (·.i))++x.i :: (S1.map (·.i))).Pairwise (· > ·):=by
     have e:(q'.map (·.i))++x.i :: (S1.map (·.i))=(List.range' 0 (l.take m).length).reverse:=by
      rw [←hq2,hqq,List.map_append,List.map_cons]
     rw [e,List.pairwise_reverse]
     exact List.pairwise_lt_range'
    rw [List.pairwise_append,List.pairwise_cons] at hdesc
    rw [h5] at hy
    rcases List.mem_append.1 hy with hy | hy
    ·have:=hdesc.2.2 _ (List.mem_map.2 ⟨y,hy,rfl⟩) _ (List.mem_cons_self ..)
     omega
    ·rcases List.mem_cons.1 hy with rfl | hy
     ·omega
     ·exact hy
 have hmain:∀ w,Hp c.U c.w0 (Hb++H) w→wpAnyIn (FW c.r) 0 c.P .any l.toArray p.Q l.length (Array.replicate l.length false) a w:=by
  intro w hw
  have hoff:∀ k,¬ isOn (Array.replicate l.length false) k:=fun k=>by
   unfold isOn
   by_cases hk:k < l.length
   ·simp [hk]
   ·simp [hk]
  have hs0:Slots c (Hb++H) (fun _=>none) (fun _ _=>False) w:=⟨fun j R hj=>(by cases hj),fun i _ hi=>(by cases hi),Holds.anti _ (fun k hk=>(by
     rcases hk with hk | ⟨_,hk,_⟩
     ·exact hk
     ·cases hk)) hw.holds⟩
  obtain⟨B',hB'⟩:=zju (c:=c) (H:=H) (N:=N) (listed:=Array.replicate l.length false) (ρ:=ρ0) Hb 0 (fun _=>none) (fun _ _=>False) hs0 (fun _ _=>rfl)
  have hsl:∀ j,zbe ρ0 (onB N (Array.replicate l.length false)) j S=(match zbe ρ0 (onB N (Array.replicate l.length false)) j (zeU N 0 Hb) with | some R=>some R | none=>none):=fun j=>by
   rw [hq,zb0 q]
   ·cases zbe ρ0 (onB N (Array.replicate l.length false)) j (zeU N 0 Hb) <;> rfl
   ·intro x hx _
    exact ziu (by have:=hqi x hx; omega) (hoff x.i)
  have:=zux (c:=c) (ds:=ds) (p:=p) (pre:=l.take m) (suf:=l.drop m) (T0:=T0) (H:=H) (S:=S) (N:=N) hlN hc hE hq hq2 hS0 hall (by rw [hl]; exact hK) l.length (Array.replicate l.length false) a w
   (by rw [hl]; exact Nat.le_trans (List.length_filter_le _ _) (by simp)) (by rw [hl]; simp) (fun k _=>hoff k)
   ⟨hw.base,ha.size,ha.defers,fun k o _ hon=>absurd hon (hoff k),fun s v hs _=>ha.val s v hs,ρ0,B',fun x _ hon=>absurd hon (hoff x.i),hB'.congr hsl⟩
  rw [hl] at this
  exact this
 cases d
 ·refine wpIn_region ?_
  have hb:zb8 0 l=true:=by
   simp only [zeY,Bool.and_eq_true] at hc
   obtain⟨⟨⟨⟨⟨⟨hback,_⟩,_⟩,_⟩,_⟩,_⟩,_⟩:=hc
   rwa [hl] at hback
  have:=zer (c:=c) (p:=p) hb l.length 0 l.length (Array.replicate l.length false) a w (by omega) (Nat.le_refl _) (by simp) (fun i hi=>⟨fun h=>by
   unfold isOn at h
   simp [hi] at h,fun h=>by omega⟩) (hmain w hw)
  rw [List.range_eq_range']
  simpa using this
 ·refine wpIn_region_any (hm rfl) ?_
  have:=hmain _ hw.drawn
  simpa using this
end
section
variable {XS:Nat→Type} {c:Cx} {ds:List Deferred} {pre:List Oper} {N:Nat} {ms:List Nat} {T0:List (Nat×Value)} {H:List Res} {K:List (E3 XS)→Prop} {i d:Nat} {r:List Oper} {S:List (E3 XS)} {op:Op} {ty:TypeId} {ps:String} {af:Array Edge}
theorem zdq {V:((i:Nat)→XS i)→Value} (h:∀ ρ:(i:Nat)→XS i,Y c ds (zeS ρ (rcf ms i) S S++H) (zdA ρ (zaT ⟨some d,op,ty,ps,af,none⟩) S++zcl pre i T0) ⟨some d,op,ty,ps,af,none⟩ (V ρ))
  (hl:∀ ρ ρ':(i:Nat)→XS i,zkB XS ms i ρ ρ'→V ρ=V ρ') (k:PH4 N c ds pre ms T0 H K (i+1) r (⟨i,some d,none,V,fun _=>Emp⟩ :: S)):PH4 N c ds pre ms T0 H K i (⟨some d,op,ty,ps,af,none⟩ :: r) S:=
 ⟨_,rfl,rfl,fun ρ ρ' hs=>⟨hl ρ ρ' (fun j hj=>hs j (.inl hj)),rfl⟩,.inl (.inl ⟨rfl,rfl,h⟩),k⟩
theorem zjr {A R:((i:Nat)→XS i)→Res} (j:Nat) (h1:Nat.ble N j=true) (h2:(S.all fun y=>!tIs y.t j||(Nat.ble N y.i||rcf ms i y.i))=true) (h3:∀ ρ:(i:Nat)→XS i,zbe ρ (fun k=>Nat.ble N k||rcf ms i k) j S=some (R ρ))
  (h:∀ ρ:(i:Nat)→XS i,zfW c ds (zdA ρ (zaT ⟨none,op,ty,ps,af,none⟩) S++zcl pre i T0) H ⟨none,op,ty,ps,af,none⟩ (R ρ) (A ρ))
  (hl:∀ ρ ρ':(i:Nat)→XS i,zkB XS ms i ρ ρ'→A ρ=A ρ') (k:PH4 N c ds pre ms T0 H K (i+1) r (⟨i,none,some j,fun _=>undef,A⟩ :: S)):PH4 N c ds pre ms T0 H K i (⟨none,op,ty,ps,af,none⟩ :: r) S:=
 ⟨_,rfl,rfl,fun ρ ρ' hs=>⟨rfl,hl ρ ρ' (fun j hj=>hs j (.inl hj))⟩,.inr (.inl ⟨rfl,j,rfl,h1,h2,fun ρ=>⟨R ρ,h3 ρ,h ρ⟩⟩),k⟩
end
end Go.K
namespace Go.Proofs.YtdcfcfhmkfkgmaaGreatDoor
open Go.K Go.Stn Go.Pln Go.RowKit
def zy1 (c:Bool) (k:Int):ByteArray:=if c=true then(if k=0 then⟨#[110,111,110,101]⟩ else if k=1 then⟨#[102,108,97,116]⟩ else if k=2 then⟨#[117,112,114,105,103,104,116]⟩ else⟨#[98,117,99,107]⟩) else(if k=1 then⟨#[115,109,111,111,116]⟩ else if k=2 then⟨#[108,117,110,107,121]⟩ else if k=3 then⟨#[115,116,105,108,101]⟩ else⟨#[103,97,116,101]⟩)
end Go.Proofs.YtdcfcfhmkfkgmaaGreatDoor
namespace Go.Proofs.YtdcfcfhmkfkgmaaGreatDoor
open Go.K Go.Stn Go.Pln Go.RowKit
theorem tf20:TF Tryz.prog 20 false 1 (.nilIface):=⟨by kernel_rfl,by kernel_rfl⟩
theorem zEj:TF Tryz.prog 197 true 2 (.agg #[.pointer none,.slice none 0 0]):=⟨by kernel_rfl,by kernel_rfl⟩
theorem zD3:SE Tryz.prog 178 20 1:=⟨Tryz.underlying178,by kernel_rfl⟩
theorem if3:IF Tryz.prog 3:=⟨_,Tryz.underlying3,fun _ h=>by cases h⟩
theorem if9:IF Tryz.prog 9:=⟨_,Tryz.underlying9,fun _ h=>by cases h⟩
theorem if35:IF Tryz.prog 35:=⟨_,Tryz.underlying35,fun _ h=>by cases h⟩
theorem zDU:En Tryz.prog 102:=za7 Tryz.func102 (by kernel_rfl) (by kernel_rfl)
theorem zEg:En Tryz.prog 103:=za7 Tryz.func103 (by kernel_rfl) (by kernel_rfl)
theorem zEh:En Tryz.prog 123:=za7 Tryz.func123 (by kernel_rfl) (by kernel_rfl)
theorem zDV:En Tryz.prog 124:=za7 Tryz.func124 (by kernel_rfl) (by kernel_rfl)
theorem zEi:En Tryz.prog 125:=za7 Tryz.func125 (by kernel_rfl) (by kernel_rfl)
theorem zDW:Tryz.prog.globalNamed "internal/strconv.uint64pow10" = some 3:=by kernel_rfl
theorem zDo (n:Int) (w:World) (hp:Has w (VarR 3 zB1)) (h0:-9223372036854775808≤n) (h1:n≤9223372036854775807):Calls Tryz.prog 102 #[.int .i64 n] w (Pure (.string (zBN n)) w):=zDp Tryz.laysM171 zDW n w h0 h1 hp
theorem zD9 {b:Nat} {m:Int} (h0:0≤m) (h1:m≤281474976710656) (w:World) (B:Nat→Prop) (hB:∀ k,B k→k < w.heap.size) (hA:(Box b [.pointer none,.slice none 0 0] 197).A B w) :
  Calls Tryz.prog 123 #[.pointer (some ⟨b,0,none⟩),.int .i64 m] w (zho (fun _:Unit=>.tuple #[]) (fun _=>Bld b 197 5 []) (fun _=>True) B w):=by
 obtain⟨n,rfl⟩:=Int.eq_ofNat_of_zero_le h0
 exact zC8 (ρ:=Tryz.lays156_ren) { Tryz.lays156 with } Tryz.Builder_Extra_156 hB hA (by omega)
theorem zDB {b:Nat} {l:List UInt8} (s:ByteArray) (w:World) (B:Nat→Prop) (hB:∀ k,B k→k < w.heap.size) (hA:(Bld b 197 5 l).A B w) (hlen:l.length+s.size≤140737488355328) :
  Calls Tryz.prog 124 #[.pointer (some ⟨b,0,none⟩),.string s] w (zho (fun _:Unit=>.tuple #[.int .i64 s.size,.nilIface]) (fun _=>Bld b 197 5 (l++s.data.toList)) (fun _=>True) B w):=zCg (ρ:=Tryz.lays156_ren) { Tryz.lays156 with } Tryz.Builder_Extra_156 s hB hA hlen
theorem zD7 {b:Nat} {l:List UInt8} (w:World) (B:Nat→Prop) (hB:∀ k,B k→k < w.heap.size) (hA:(Bld b 197 5 l).A B w) (h63:l.length≤9223372036854775807) :
  Calls Tryz.prog 125 #[.pointer (some ⟨b,0,none⟩)] w (zho (fun _:Unit=>.string ⟨l.toArray⟩) (fun _=>Emp) (fun _=>True) B w):=by
 cases l with
 | nil=>exact zB8 (ρ:=Tryz.lays156_ren) { Tryz.lays156 with } Tryz.Builder_Extra_156 hB hA
 | cons x r=>exact zB9 (ρ:=Tryz.lays156_ren) { Tryz.lays156 with } Tryz.Builder_Extra_156 hB hA (by simp) h63
inductive AnyV where
 | str (b:ByteArray)
 | num (n:Int)
 | nums (a:Option Addr) (c:Nat) (l:List Int)
instance:Inhabited AnyV:=⟨.num 0⟩
def anyV:AnyV→Value
 | .str b=>.iface 9 (.string b)
 | .num n=>.iface 3 (.int .i64 n)
 | .nums a c l=>.iface 35 (.slice a l.length c)
abbrev encA (x:AnyV):List Value:=[anyV x]
theorem zCc:Enc 1 encA:=⟨fun _=>rfl,fun x=>by cases x <;> rfl,by decide⟩
def zBO:AnyV→List ByteArray
 | .str b=>[b]
 | .num n=>[zBN n]
 | .nums _ _ l=>l.map zBN
def zCT (w:World):AnyV→Prop
 | .str b=>b.size≤16
 | .num n=>Nm n
 | .nums a _ l=>Has w (Ints a l)∧l.length≤100∧∀ n∈l,Nm n
theorem zDO {w:World} {x:AnyV} (h:zCT w x):(zBO x).length≤100∧∀ u∈zBO x,u.size≤16:=by
 cases x with
 | str b=>exact⟨by simp [zBO],fun u hu=>by rw [zBO,List.mem_singleton] at hu; rw [hu]; exact h⟩
 | num n=>exact⟨by simp [zBO],fun u hu=>by rw [zBO,List.mem_singleton] at hu; rw [hu]; have:=zBY h; omega⟩
 | nums a c l=>exact⟨by rw [zBO,List.length_map]; exact h.2.1,fun u hu=>by
   rw [zBO] at hu
   obtain⟨n,hn,rfl⟩:=List.mem_map.1 hu
   have:=zBY (h.2.2 n hn); omega⟩
theorem zCR {w:World}:∀ {L:List AnyV},(∀ x∈L,zCT w x)→(L.flatMap zBO).length≤100*L.length
 | [],_=>by simp
 | x :: r,h=>by
  have h1:=zCR (L:=r) (fun y hy=>h y (by simp [hy]))
  have h2:=(zDO (h x (by simp))).1
  rw [List.flatMap_cons,List.length_append,List.length_cons,Nat.mul_succ]; omega
theorem zCx {w:World} {L:List AnyV} (h:∀ x∈L,zCT w x):∀ u∈L.flatMap zBO,u.size≤16:=fun u hu=>by
 obtain⟨x,hx,hu⟩:=List.mem_flatMap.1 hu
 exact(zDO (h x hx)).2 u hu
theorem zCf {L:List AnyV} {i:Int} (h0:0≤i) (h:i < (L.length:Int)):(L.take (i+1).toNat).flatMap zBO=(L.take i.toNat).flatMap zBO++zBO (L.getD i.toNat default):=by
 rw [ziI h0 h,List.flatMap_append]; simp
theorem zC2 {l:List Int} {k:Int} (h0:0≤k) (h:k < (l.length:Int)):(l.take (k+1).toNat).map zBN=(l.take k.toNat).map zBN++[zBN (l.getD k.toNat default)]:=by
 rw [ziI h0 h,List.map_append]; rfl
set_option maxRecDepth 100000 in
set_option maxHeartbeats 4000000 in
theorem zEb (a:Option Addr) (cap:Nat) (l:List ByteArray) (w:World) (hl:Has w (zaW a 1 encS l)) (hcap:l.length≤cap) (hs:l.length≤100000) (hsz:∀ x∈l,x.size≤16) :
  Calls Tryz.prog 103 #[.slice a l.length cap,.string (⟨#[32]⟩:ByteArray)] w (Pure (.string (zCC l)) w):=by
 refine zan (vs:=[_,_]) Tryz.func103 rfl rfl (Nat.le_of_ble_eq_true rfl) ?_
 refine zac (zaa (gA ?_))
 refine zag (zae (T':=[(0,_),(1,_),(4,_)]) ⟨rfl,rfl,rfl,trivial⟩ ?_)
 refine zac (zac (zaa (gM ?_)))
 refine gQ (zaV (Tryz.underlying124) rfl) ?_
 refine zag (zae (T':=[(0,_),(1,_),(4,_),(12,_)]) ⟨rfl,rfl,rfl,rfl,trivial⟩ ?_)
 refine zas ?_
 refine zac (zaa (gk_y rfl rfl (zbL rfl rfl) ?_))
 refine gA ?_
 refine zag (zae (T':=[(0,_),(1,_),(4,_),(12,_),(13,_)]) ⟨rfl,rfl,rfl,rfl,rfl,trivial⟩ ?_)
 refine zap rfl (fun hc13=>?_) (fun hc13=>?_)
 ·have hc13:=of_decide_eq_true hc13
  refine zac (zaa (gA ?_))
  refine zag (zae (T':=[(0,_),(1,_),(4,_)]) ⟨rfl,rfl,rfl,trivial⟩ ?_)
  refine zaw (zay (zaC rfl (zau rfl)) ?_)
  rw [zCI hc13]
 ·have hc13:=of_decide_eq_false hc13
  refine zac (zaa (gk_y rfl rfl (zbL rfl rfl) ?_))
  refine gA ?_
  refine zag (zae (T':=[(0,_),(1,_),(4,_),(15,_)]) ⟨rfl,rfl,rfl,rfl,trivial⟩ ?_)
  refine zap rfl (fun hc15=>?_) (fun hc15=>?_)
  ·have hc15:=of_decide_eq_true hc15
   refine zac (zaa (gM ?_))
   refine gQ (zaE zqJ rfl rfl (fun _ hw=>(Rd.has (Has.rd hl) hw)) (by omega) (by omega)) ?_
   refine gQ (zcE tf9 rfl (fun _ hw=>(Rd.has (Has.rd hl) hw)) (by omega) (by omega) rfl) ?_
   refine gA ?_
   refine zag (zae (T':=[(0,_),(1,_),(4,_)]) ⟨rfl,rfl,rfl,trivial⟩ ?_)
   refine zaw (zay (zaC rfl (zau rfl)) ?_)
   rw [zDq hc15]; rfl
  ·have hc15:=of_decide_eq_false hc15
   have hdl:(l.drop 1).length=l.length - 1:=List.length_drop
   obtain⟨hqb,hqc⟩:=zD2 (n:=(l.length:Int) - 1) (by omega) (by omega)
   have hqw:IntKind.i64.wrap ((9223372036854775807:Int).tdiv ((l.length:Int) - 1))=(9223372036854775807:Int).tdiv ((l.length:Int) - 1):=zeA (by omega) (by omega)
   have hsp:(⟨#[32]⟩:ByteArray).size=1:=rfl
   have hsm:((⟨#[32]⟩:ByteArray).size:Int)*((l.length:Int) - 1)=(l.length:Int) - 1:=by rw [show((⟨#[32]⟩:ByteArray).size:Int)=1 from rfl,Int.one_mul]
   refine zaq (zac (zaa (gA ?_)))
   refine zag (zae (T':=[(0,_),(1,_),(4,_),(5,_)]) ⟨rfl,rfl,rfl,rfl,trivial⟩ ?_)
   refine zac (zac (zaa (gM ?_)))
   refine gQ (zeO (Tryz.underlying9) rfl) ?_
   refine gQ (zc6 rfl rfl) ?_
   refine zag (zae (T':=[(0,_),(1,_),(4,_),(5,_),(22,_)]) ⟨rfl,rfl,rfl,rfl,rfl,trivial⟩ ?_)
   refine zdg rfl ?_
   refine zac (zac (zaa (gM ?_)))
   refine gQ (zeO (Tryz.underlying9) rfl) ?_
   refine gM ?_
   refine gQ (zaV (Tryz.underlying124) rfl) ?_
   refine gQ (zfV rfl rfl (by omega) (by omega)) ?_
   refine gQ (zoI rfl rfl (by omega)) ?_
   refine gQ (zfx rfl rfl) ?_
   refine zag (zae (T':=[(0,_),(1,_),(4,_),(5,_),(29,_)]) ⟨rfl,rfl,rfl,rfl,rfl,trivial⟩ ?_)
   refine zap rfl (fun hc29=>?_) (fun hc29=>?_)
   ·exfalso; simp only [decide_eq_true_eq] at hc29; omega
   ·simp only [decide_eq_false_iff_not] at hc29
    refine zaq (zaa (gM ?_))
    refine gM ?_
    refine gQ (zeO (Tryz.underlying9) rfl) ?_
    refine gM ?_
    refine gQ (zaV (Tryz.underlying124) rfl) ?_
    refine gQ (zfV rfl rfl (by omega) (by omega)) ?_
    refine gQ (zq0 rfl rfl (by omega) (by omega)) ?_
    refine gQ (zaY rfl rfl (by omega) (by omega)) ?_
    refine gA ?_
    refine zag (zae (T':=[(0,_),(1,_),(4,_),(5,_)]) ⟨rfl,rfl,rfl,rfl,trivial⟩ ?_)
    refine zac (zac (zaa (gM ?_)))
    refine gQ (zaV (Tryz.underlying124) rfl) ?_
    refine gM ?_
    refine zag (zae (T':=[(0,_),(1,_),(4,_),(5,_),(39,_),(40,_),(41,_)]) ⟨rfl,rfl,rfl,rfl,rfl,rfl,rfl,trivial⟩ ?_)
    refine zas ?_
    refine zbf (X:=Int×Int) (fun⟨i,m⟩=>[(0,.slice a l.length cap),(1,.string (⟨#[32]⟩:ByteArray)),(4,.string (⟨#[]⟩:ByteArray)),(5,.int .i64 m),(39,.slice a l.length cap),(40,.int .i64 (l.length:Int)),(41,.int .i64 i)]) (fun⟨i,m⟩=>[]) (fun⟨i,m⟩=>(0≤i∧i≤l.length∧0≤m∧m≤100000+16*i)) (fun⟨i,m⟩=>(l.length - i).toNat) (0,_) ⟨rfl,rfl,rfl,rfl,rfl,rfl,rfl,trivial⟩ rfl ?_ ?_
    ·exact⟨by omega,by omega,by omega,by omega⟩
    ·rintro ⟨i,m⟩ hI
     obtain⟨g0,g1,g2,g3⟩:=hI
     refine zac (zaa (gk_y rfl rfl (zbw rfl rfl) ?_))
     refine zag (zae (T':=[(0,_),(1,_),(4,_),(5,_),(39,_),(40,_),(41,_),(42,_)]) ⟨rfl,rfl,rfl,rfl,rfl,rfl,rfl,rfl,trivial⟩ ?_)
     refine zac (zap rfl (fun hc42=>?_) (fun hc42=>?_))
     ·have hc42:=of_decide_eq_true hc42
      have hxz:=hsz _ (za0 (l:=l) (i:=i.toNat) (by omega))
      refine zaq (zac (zas ?_))
      refine zac (zaa (gk_y rfl rfl (zaE zqJ rfl rfl (fun _ hw=>(Rd.has (Has.rd hl) hw)) (by omega) (by omega)) ?_))
      refine gQ (zcE tf9 rfl (fun _ hw=>(Rd.has (Has.rd hl) hw)) (by omega) (by omega) rfl) ?_
      refine gA ?_
      refine zag (zae (T':=[(0,_),(1,_),(4,_),(5,_),(7,_),(39,_),(40,_),(41,_)]) ⟨rfl,rfl,rfl,rfl,rfl,rfl,rfl,rfl,trivial⟩ ?_)
      refine zac (zac (zaa (gM ?_)))
      refine gQ (zeO (Tryz.underlying9) rfl) ?_
      refine gM ?_
      refine gQ (zfV rfl rfl (by omega) (by omega)) ?_
      refine gQ (zc6 rfl rfl) ?_
      refine zag (zae (T':=[(0,_),(1,_),(4,_),(5,_),(7,_),(39,_),(40,_),(41,_),(49,_)]) ⟨rfl,rfl,rfl,rfl,rfl,rfl,rfl,rfl,rfl,trivial⟩ ?_)
      refine zap rfl (fun hc49=>?_) (fun hc49=>?_)
      ·exfalso; simp only [decide_eq_true_eq] at hc49; omega
      ·simp only [decide_eq_false_iff_not] at hc49
       refine zaq (zaa (gM ?_))
       refine gM ?_
       refine gQ (zeO (Tryz.underlying9) rfl) ?_
       refine gQ (zaY rfl rfl (by omega) (by omega)) ?_
       refine gA ?_
       refine zag (zae (T':=[(0,_),(1,_),(4,_),(5,_),(39,_),(40,_),(41,_)]) ⟨rfl,rfl,rfl,rfl,rfl,rfl,rfl,trivial⟩ ?_)
       refine zaa (gk_y rfl rfl (zaY rfl rfl (by omega) (by omega)) ?_)
       refine gM ?_
       refine zag (zae (T':=[(0,_),(1,_),(4,_),(5,_),(39,_),(40,_),(41,_)]) ⟨rfl,rfl,rfl,rfl,rfl,rfl,rfl,trivial⟩ ?_)
       exact za1 (i+1,_) ⟨rfl,rfl,rfl,rfl,rfl,rfl,rfl,trivial⟩ rfl ⟨by omega,by omega,by omega,by omega⟩ (by simp only []; omega)
     ·have hc42:=of_decide_eq_false hc42
      refine za8 rfl ?_
      refine zac (zaa (zaG rfl rfl (zaL zEj (zs:=[_,_]) rfl) fun b8=>?_))
      refine zag (zae (T':=[(0,_),(1,_),(4,_),(5,_),(8,_)]) ⟨rfl,rfl,rfl,rfl,rfl,trivial⟩ ?_)
      refine zac (zaa (gM ?_))
      refine zjY 0 zEh rfl rfl rfl (fun w B hF=>zD9 g2 (by omega) w B (fun k hk=>(hF.own k hk).2) hF.A) fun u57 hq57=>?_
      refine zag (zae (T':=[(0,_),(1,_),(4,_),(8,_)]) ⟨rfl,rfl,rfl,rfl,trivial⟩ ?_)
      refine zac (zaa (gM ?_))
      refine gQ (zaE zqJ rfl rfl (fun _ hw=>(Rd.has (Has.rd hl) hw)) (by omega) (by omega)) ?_
      refine gQ (zcE tf9 rfl (fun _ hw=>(Rd.has (Has.rd hl) hw)) (by omega) (by omega) rfl) ?_
      refine zjY 0 zDV rfl rfl rfl (fun w B hF=>zDB _ w B (fun k hk=>(hF.own k hk).2) hF.A (by have:=hsz _ (za0 (l:=l) (i:=(0:Int).toNat) (by omega)); simp only [List.length_nil]; omega)) fun u61 hq61=>?_
      refine zag (zae (T':=[(0,_),(1,_),(4,_),(8,_)]) ⟨rfl,rfl,rfl,rfl,trivial⟩ ?_)
      refine za2 (R':=Bld b8 197 5 (jnL l (0:Int).toNat)) 0 rfl (fun B w hA=>by rw [show(jnL l (0:Int).toNat)=([]++(l.getD (0:Int).toNat default).data.toList) from by rw [show(0:Int).toNat=0 from rfl,zDH]; rfl]; exact hA) ?_
      refine zac (zac (zaa (gM ?_)))
      refine gQ (zg9 zqJ rfl rfl (by omega) (by omega)) ?_
      refine gQ (zaV (Tryz.underlying124) rfl) ?_
      refine gM ?_
      refine zag (zae (T':=[(1,_),(4,_),(8,_),(63,_),(64,_),(65,_)]) ⟨rfl,rfl,rfl,rfl,rfl,rfl,trivial⟩ ?_)
      refine zas ?_
      refine zbf (X:=Int) (fun(k:Int)=>[(1,.string (⟨#[32]⟩:ByteArray)),(4,.string (⟨#[]⟩:ByteArray)),(8,.pointer (some ⟨b8,0,none⟩)),(63,.slice (subA a 1 1 cap) (l.drop 1).length (cap - 1)),(64,.int .i64 ((l.drop 1).length:Int)),(65,.int .i64 k)]) (fun(k:Int)=>[Bld b8 197 5 (jnL l k.toNat)]) (fun(k:Int)=>(0≤k∧k≤(l.drop 1).length)) (fun(k:Int)=>((l.drop 1).length - k).toNat) 0 ⟨rfl,rfl,rfl,rfl,rfl,rfl,trivial⟩ rfl ?_ ?_
      ·exact⟨by omega,by omega⟩
      ·rintro k hI
       obtain⟨k0,k1⟩:=hI
       have hjl:=zCY hsz (by omega) k.toNat
       refine zac (zaa (gk_y rfl rfl (zbw rfl rfl) ?_))
       refine zag (zae (T':=[(1,_),(4,_),(8,_),(63,_),(64,_),(65,_),(66,_)]) ⟨rfl,rfl,rfl,rfl,rfl,rfl,rfl,trivial⟩ ?_)
       refine zac (zap rfl (fun hc66=>?_) (fun hc66=>?_))
       ·have hc66:=of_decide_eq_true hc66
        refine zaq (zac (zas ?_))
        refine zac (zaa (gk_y rfl rfl (zaE zqJ rfl rfl (fun _ hw=>(zoc (Rd.has (Has.rd hl) hw) hcap (by omega))) (by omega) (by omega)) ?_))
        refine gQ (zcE tf9 rfl (fun _ hw=>(zoc (Rd.has (Has.rd hl) hw) hcap (by omega))) (by omega) (by omega) rfl) ?_
        refine gA ?_
        refine zag (zae (T':=[(1,_),(4,_),(8,_),(10,_),(63,_),(64,_),(65,_)]) ⟨rfl,rfl,rfl,rfl,rfl,rfl,rfl,trivial⟩ ?_)
        refine zac (zaa (gM ?_))
        refine zjY 0 zDV rfl rfl rfl (fun w B hF=>zDB _ w B (fun k hk=>(hF.own k hk).2) hF.A (by have h:(⟨#[32]⟩:ByteArray).size=1:=rfl; omega)) fun u70 hq70=>?_
        refine zag (zae (T':=[(1,_),(4,_),(8,_),(10,_),(63,_),(64,_),(65,_)]) ⟨rfl,rfl,rfl,rfl,rfl,rfl,rfl,trivial⟩ ?_)
        refine zaa (gM ?_)
        refine zjY 0 zDV rfl rfl rfl (fun w B hF=>zDB _ w B (fun k hk=>(hF.own k hk).2) hF.A (by have:=hsz _ (List.mem_of_mem_drop (za0 (l:=l.drop 1) (i:=k.toNat) (by omega))); simp only [List.length_append,List.length_singleton]; have h:(⟨#[32]⟩:ByteArray).data.size=1:=rfl; omega)) fun u72 hq72=>?_
        refine zag (zae (T':=[(1,_),(4,_),(8,_),(63,_),(64,_),(65,_)]) ⟨rfl,rfl,rfl,rfl,rfl,rfl,trivial⟩ ?_)
        refine za2 (R':=Bld b8 197 5 (jnL l (k+1).toNat)) 0 rfl (fun B w hA=>by rw [show(jnL l (k+1).toNat)=(((jnL l k.toNat)++(⟨#[32]⟩:ByteArray).data.toList)++((l.drop 1).getD (k).toNat default).data.toList) from by exact zDG k0 hc66]; exact hA) ?_
        refine zaa (gk_y rfl rfl (zaY rfl rfl (by omega) (by omega)) ?_)
        refine gM ?_
        refine zag (zae (T':=[(1,_),(4,_),(8,_),(63,_),(64,_),(65,_)]) ⟨rfl,rfl,rfl,rfl,rfl,rfl,trivial⟩ ?_)
        exact za1 (k+1) ⟨rfl,rfl,rfl,rfl,rfl,rfl,trivial⟩ rfl ⟨by omega,by omega⟩ (by omega)
       ·have hc66:=of_decide_eq_false hc66
        have hjl:=zCY hsz (by omega) k.toNat
        refine za8 rfl ?_
        refine zac (zaa (zjY 0 zEi rfl rfl rfl (fun w B hF=>zD7 w B (fun k hk=>(hF.own k hk).2) hF.A (by omega)) fun u74 hq74=>?_))
        refine gA ?_
        refine zag (zae (T':=[(4,_)]) ⟨rfl,trivial⟩ ?_)
        refine zaw (zay (zaC rfl (zau rfl)) ?_)
        rw [zCs (l:=l) (k:=k) (by omega) (by omega)]
set_option maxRecDepth 100000 in
set_option maxHeartbeats 4000000 in
theorem zCD (a:Option Addr) (cap:Nat) (L:List AnyV) (w:World) (hl:Has w (zaW a 1 encA L)) (hs:L.length≤100) (hany:∀ x∈L,zCT w x) (hp10:Has w (VarR 3 zB1)) :
  Calls Tryz.prog 70 #[.slice a L.length cap] w (Pure (.string (zDa (L.flatMap zBO))) w):=by
 refine zan (vs:=[_]) Tryz.func70 rfl rfl (Nat.le_of_ble_eq_true rfl) ?_
 refine zac (zaa (gA ?_))
 refine zag (zae (T':=[(0,_),(2,_)]) ⟨rfl,rfl,trivial⟩ ?_)
 refine zac (zaa (gA ?_))
 refine zag (zae (T':=[(0,_),(2,_),(3,_)]) ⟨rfl,rfl,rfl,trivial⟩ ?_)
 refine zac (zac (zaa (gM ?_)))
 refine gQ (zaV (Tryz.underlying178) rfl) ?_
 refine gM ?_
 refine zag (zae (T':=[(2,_),(3,_),(11,_),(12,_),(13,_)]) ⟨rfl,rfl,rfl,rfl,rfl,trivial⟩ ?_)
 refine zas ?_
 refine zbB 9 encS 1 ?_
 refine zbf (X:=Int×Option Addr×Nat×List ByteArray) (fun⟨i,b,bc,M⟩=>[(2,.string (⟨#[]⟩:ByteArray)),(3,.slice b M.length bc),(11,.slice a L.length cap),(12,.int .i64 (L.length:Int)),(13,.int .i64 i)]) (fun⟨i,b,bc,M⟩=>[Row b 1 bc 9 encS M]) (fun⟨i,b,bc,M⟩=>(0≤i∧i≤L.length∧M=(L.take i.toNat).flatMap zBO)) (fun⟨i,b,bc,M⟩=>(L.length - i).toNat) (0,none,0,[]) ⟨rfl,rfl,rfl,rfl,rfl,trivial⟩ rfl ?_ ?_
 ·exact⟨by omega,by omega,rfl⟩
 ·rintro ⟨i,b,bc,M⟩ hI
  obtain⟨g0,g1,g2⟩:=hI
  have hMl:=zCR (L:=L.take i.toNat) (fun x hx=>hany x (List.mem_of_mem_take hx))
  rw [←g2,List.length_take] at hMl
  refine zac (zaa (gk_y rfl rfl (zbw rfl rfl) ?_))
  refine zag (zae (T':=[(2,_),(3,_),(11,_),(12,_),(13,_),(14,_)]) ⟨rfl,rfl,rfl,rfl,rfl,rfl,trivial⟩ ?_)
  refine zac (zap rfl (fun hc14=>?_) (fun hc14=>?_))
  ·have hc14:=of_decide_eq_true hc14
   have hmem:=hany (L.getD i.toNat default) (za0 (by omega))
   rcases hx:(L.getD i.toNat default) with u | n | ⟨ea,ec,el⟩
   ·
    rw [hx] at hmem
    refine zaq (zac (zas ?_))
    refine zac (zaa (gk_y rfl rfl (zaE zD3 rfl rfl (fun _ hw=>(Rd.has (Has.rd hl) hw)) (by omega) (by omega)) ?_))
    refine gQ (zcE tf20 rfl (fun _ hw=>(Rd.has (Has.rd hl) hw)) (by omega) (by omega) rfl) ?_
    refine gA ?_
    refine zag (zae (T':=[(2,_),(3,_),(5,_),(11,_),(12,_),(13,_)]) ⟨rfl,rfl,rfl,rfl,rfl,rfl,trivial⟩ ?_)
    refine zae (T':=[(2,_),(3,_),(5,.iface 9 (.string u)),(11,_),(12,_),(13,_)]) ⟨rfl,rfl,(by show some (anyV (L.getD i.toNat default))=_; rw [hx]; rfl),rfl,rfl,rfl,trivial⟩ ?_
    refine zac (zaa (gM ?_))
    refine zag (zae (T':=[(2,_),(3,_),(11,_),(12,_),(13,_),(17,_)]) ⟨rfl,rfl,rfl,rfl,rfl,rfl,trivial⟩ ?_)
    refine zas ?_
    refine zac (zaa (gk_y rfl rfl (zlN if9 rfl) ?_))
    refine gQ (zaB rfl rfl) ?_
    refine gQ (zaB rfl rfl) ?_
    refine zag (zae (T':=[(2,_),(3,_),(11,_),(12,_),(13,_),(17,_),(19,_),(20,_)]) ⟨rfl,rfl,rfl,rfl,rfl,rfl,rfl,rfl,trivial⟩ ?_)
    refine zdg rfl ?_
    refine zac (zaa (gA ?_))
    refine zag (zae (T':=[(2,_),(3,_),(6,_),(11,_),(12,_),(13,_)]) ⟨rfl,rfl,rfl,rfl,rfl,rfl,trivial⟩ ?_)
    refine zaa (gM ?_)
    refine gM ?_
    refine zaG rfl rfl (zaD rfl (zAm _) ztJ rfl) fun b23=>?_
    refine zb4 (m:=[u]) 1 zBl ztJ rfl rfl rfl rfl (fun _ hw=>(zam ztJ (hw.has (p:=0) rfl))) (by first | omega | (simp only [List.length_cons,List.length_nil]; omega)) (by first | (unfold maxLen; omega) | (simp only [List.length_cons,List.length_nil,maxLen]; omega)) fun a24 c24=>?_
    refine gA ?_
    refine zag (zae (T':=[(2,_),(3,_),(11,_),(12,_),(13,_)]) ⟨rfl,rfl,rfl,rfl,rfl,trivial⟩ ?_)
    refine zaa (gk_y rfl rfl (zaY rfl rfl (by omega) (by omega)) ?_)
    refine gM ?_
    refine zag (zae (T':=[(2,_),(3,_),(11,_),(12,_),(13,_)]) ⟨rfl,rfl,rfl,rfl,rfl,trivial⟩ ?_)
    refine zaK 0 rfl ?_
    exact za1 (i+1,_,_,_) ⟨rfl,rfl,rfl,rfl,rfl,trivial⟩ rfl ⟨by omega,by omega,by rw [zCf g0 hc14,hx,←g2]; rfl⟩ (by simp only []; omega)
   ·
    rw [hx] at hmem
    refine zaq (zac (zas ?_))
    refine zac (zaa (gk_y rfl rfl (zaE zD3 rfl rfl (fun _ hw=>(Rd.has (Has.rd hl) hw)) (by omega) (by omega)) ?_))
    refine gQ (zcE tf20 rfl (fun _ hw=>(Rd.has (Has.rd hl) hw)) (by omega) (by omega) rfl) ?_
    refine gA ?_
    refine zag (zae (T':=[(2,_),(3,_),(5,_),(11,_),(12,_),(13,_)]) ⟨rfl,rfl,rfl,rfl,rfl,rfl,trivial⟩ ?_)
    refine zae (T':=[(2,_),(3,_),(5,.iface 3 (.int .i64 n)),(11,_),(12,_),(13,_)]) ⟨rfl,rfl,(by show some (anyV (L.getD i.toNat default))=_; rw [hx]; rfl),rfl,rfl,rfl,trivial⟩ ?_
    refine zac (zaa (gM ?_))
    refine zag (zae (T':=[(2,_),(3,_),(11,_),(12,_),(13,_),(17,_)]) ⟨rfl,rfl,rfl,rfl,rfl,rfl,trivial⟩ ?_)
    refine zas ?_
    refine zac (zaa (gk_y rfl rfl (zBV if9 tf9 (by decide) rfl) ?_))
    refine gQ (zaB rfl rfl) ?_
    refine gQ (zaB rfl rfl) ?_
    refine zag (zae (T':=[(2,_),(3,_),(11,_),(12,_),(13,_),(17,_),(19,_),(20,_)]) ⟨rfl,rfl,rfl,rfl,rfl,rfl,rfl,rfl,trivial⟩ ?_)
    refine zd8 rfl ?_
    refine zac (zaa (gk_y rfl rfl (zlN if3 rfl) ?_))
    refine gQ (zaB rfl rfl) ?_
    refine gQ (zaB rfl rfl) ?_
    refine zag (zae (T':=[(2,_),(3,_),(11,_),(12,_),(13,_),(17,_),(26,_),(27,_)]) ⟨rfl,rfl,rfl,rfl,rfl,rfl,rfl,rfl,trivial⟩ ?_)
    refine zdg rfl ?_
    refine zac (zaa (gA ?_))
    refine zag (zae (T':=[(2,_),(3,_),(7,_),(11,_),(12,_),(13,_)]) ⟨rfl,rfl,rfl,rfl,rfl,rfl,trivial⟩ ?_)
    refine zaa (gM ?_)
    refine gM ?_
    refine gQ (zaJ zDU rfl (fun w hw=>zDo n w (Rd.has (Has.rd hp10) hw) (by have:=hmem.1; omega) (by have:=hmem.2; omega))) ?_
    refine zaG rfl rfl (zaD rfl (zAm _) ztJ rfl) fun b31=>?_
    refine zb4 (m:=[(zBN n)]) 1 zBl ztJ rfl rfl rfl rfl (fun _ hw=>(zam ztJ (hw.has (p:=0) rfl))) (by first | omega | (simp only [List.length_cons,List.length_nil]; omega)) (by first | (unfold maxLen; omega) | (simp only [List.length_cons,List.length_nil,maxLen]; omega)) fun a32 c32=>?_
    refine gA ?_
    refine zag (zae (T':=[(2,_),(3,_),(11,_),(12,_),(13,_)]) ⟨rfl,rfl,rfl,rfl,rfl,trivial⟩ ?_)
    refine zaa (gk_y rfl rfl (zaY rfl rfl (by omega) (by omega)) ?_)
    refine gM ?_
    refine zag (zae (T':=[(2,_),(3,_),(11,_),(12,_),(13,_)]) ⟨rfl,rfl,rfl,rfl,rfl,trivial⟩ ?_)
    refine zaK 0 rfl ?_
    exact za1 (i+1,_,_,_) ⟨rfl,rfl,rfl,rfl,rfl,trivial⟩ rfl ⟨by omega,by omega,by rw [zCf g0 hc14,hx,←g2]; rfl⟩ (by simp only []; omega)
   ·
    rw [hx] at hmem
    have hel:=hmem.2.1
    refine zaq (zac (zas ?_))
    refine zac (zaa (gk_y rfl rfl (zaE zD3 rfl rfl (fun _ hw=>(Rd.has (Has.rd hl) hw)) (by omega) (by omega)) ?_))
    refine gQ (zcE tf20 rfl (fun _ hw=>(Rd.has (Has.rd hl) hw)) (by omega) (by omega) rfl) ?_
    refine gA ?_
    refine zag (zae (T':=[(2,_),(3,_),(5,_),(11,_),(12,_),(13,_)]) ⟨rfl,rfl,rfl,rfl,rfl,rfl,trivial⟩ ?_)
    refine zae (T':=[(2,_),(3,_),(5,.iface 35 (.slice ea el.length ec)),(11,_),(12,_),(13,_)]) ⟨rfl,rfl,(by show some (anyV (L.getD i.toNat default))=_; rw [hx]; rfl),rfl,rfl,rfl,trivial⟩ ?_
    refine zac (zaa (gM ?_))
    refine zag (zae (T':=[(2,_),(3,_),(11,_),(12,_),(13,_),(17,_)]) ⟨rfl,rfl,rfl,rfl,rfl,rfl,trivial⟩ ?_)
    refine zas ?_
    refine zac (zaa (gk_y rfl rfl (zBV if9 tf9 (by decide) rfl) ?_))
    refine gQ (zaB rfl rfl) ?_
    refine gQ (zaB rfl rfl) ?_
    refine zag (zae (T':=[(2,_),(3,_),(11,_),(12,_),(13,_),(17,_),(19,_),(20,_)]) ⟨rfl,rfl,rfl,rfl,rfl,rfl,rfl,rfl,trivial⟩ ?_)
    refine zd8 rfl ?_
    refine zac (zaa (gk_y rfl rfl (zBV if3 tf3 (by decide) rfl) ?_))
    refine gQ (zaB rfl rfl) ?_
    refine gQ (zaB rfl rfl) ?_
    refine zag (zae (T':=[(2,_),(3,_),(11,_),(12,_),(13,_),(17,_),(26,_),(27,_)]) ⟨rfl,rfl,rfl,rfl,rfl,rfl,rfl,rfl,trivial⟩ ?_)
    refine zd8 rfl ?_
    refine zac (zaa (gk_y rfl rfl (zlN if35 rfl) ?_))
    refine gQ (zaB rfl rfl) ?_
    refine gQ (zaB rfl rfl) ?_
    refine zag (zae (T':=[(2,_),(3,_),(11,_),(12,_),(13,_),(34,_),(35,_)]) ⟨rfl,rfl,rfl,rfl,rfl,rfl,rfl,trivial⟩ ?_)
    refine zdg rfl ?_
    refine zac (zaa (gA ?_))
    refine zag (zae (T':=[(2,_),(3,_),(8,_),(11,_),(12,_),(13,_)]) ⟨rfl,rfl,rfl,rfl,rfl,rfl,trivial⟩ ?_)
    refine zac (zaa (gM ?_))
    refine gQ (zaV (Tryz.underlying35) rfl) ?_
    refine gM ?_
    refine zag (zae (T':=[(2,_),(3,_),(11,_),(12,_),(13,_),(36,_),(37,_),(38,_)]) ⟨rfl,rfl,rfl,rfl,rfl,rfl,rfl,rfl,trivial⟩ ?_)
    refine zas ?_
    refine zbf (X:=Int×Option Addr×Nat×List ByteArray) (fun⟨k,b2,bc2,M2⟩=>[(2,.string (⟨#[]⟩:ByteArray)),(3,.slice b2 M2.length bc2),(11,.slice a L.length cap),(12,.int .i64 (L.length:Int)),(13,.int .i64 i),(36,.slice ea el.length ec),(37,.int .i64 (el.length:Int)),(38,.int .i64 k)]) (fun⟨k,b2,bc2,M2⟩=>[Row b2 1 bc2 9 encS M2]) (fun⟨k,b2,bc2,M2⟩=>(0≤k∧k≤el.length∧M2=M++(el.take k.toNat).map zBN∧M2.length≤M.length+k)) (fun⟨k,b2,bc2,M2⟩=>(el.length - k).toNat) (0,_,_,_) ⟨rfl,rfl,rfl,rfl,rfl,rfl,rfl,rfl,trivial⟩ rfl ?_ ?_
    ·exact⟨by omega,by omega,(List.append_nil _).symm,by simp⟩
    ·rintro ⟨k,b2,bc2,M2⟩ hI
     obtain⟨k0,k1,k2,k3⟩:=hI
     refine zac (zaa (gk_y rfl rfl (zbw rfl rfl) ?_))
     refine zag (zae (T':=[(2,_),(3,_),(11,_),(12,_),(13,_),(36,_),(37,_),(38,_),(39,_)]) ⟨rfl,rfl,rfl,rfl,rfl,rfl,rfl,rfl,rfl,trivial⟩ ?_)
     refine zac (zap rfl (fun hc39=>?_) (fun hc39=>?_))
     ·have hc39:=of_decide_eq_true hc39
      have hnk:=hmem.2.2 _ (za0 (l:=el) (i:=k.toNat) (by omega))
      refine zaq (zac (zas ?_))
      refine zac (zaa (gk_y rfl rfl (zaE se35 rfl rfl (fun _ hw=>(Rd.has (Has.rd hmem.1) hw)) (by omega) (by omega)) ?_))
      refine gQ (zcE tf3 rfl (fun _ hw=>(Rd.has (Has.rd hmem.1) hw)) (by omega) (by omega) rfl) ?_
      refine gA ?_
      refine zag (zae (T':=[(2,_),(3,_),(10,_),(11,_),(12,_),(13,_),(36,_),(37,_),(38,_)]) ⟨rfl,rfl,rfl,rfl,rfl,rfl,rfl,rfl,rfl,trivial⟩ ?_)
      refine zaa (gM ?_)
      refine gM ?_
      refine gQ (zaJ zDU rfl (fun w hw=>zDo (el.getD (k).toNat default) w (Rd.has (Has.rd hp10) hw) (by have:=hnk.1; omega) (by have:=hnk.2; omega))) ?_
      refine zaG rfl rfl (zaD rfl (zAm _) ztJ rfl) fun b45=>?_
      refine zb4 (m:=[(zBN (el.getD (k).toNat default))]) 1 zBl ztJ rfl rfl rfl rfl (fun _ hw=>(zam ztJ (hw.has (p:=0) rfl))) (by first | omega | (simp only [List.length_cons,List.length_nil]; omega)) (by first | (unfold maxLen; omega) | (simp only [List.length_cons,List.length_nil,maxLen]; omega)) fun a46 c46=>?_
      refine gA ?_
      refine zag (zae (T':=[(2,_),(3,_),(11,_),(12,_),(13,_),(36,_),(37,_),(38,_)]) ⟨rfl,rfl,rfl,rfl,rfl,rfl,rfl,rfl,trivial⟩ ?_)
      refine zaa (gk_y rfl rfl (zaY rfl rfl (by omega) (by omega)) ?_)
      refine gM ?_
      refine zag (zae (T':=[(2,_),(3,_),(11,_),(12,_),(13,_),(36,_),(37,_),(38,_)]) ⟨rfl,rfl,rfl,rfl,rfl,rfl,rfl,rfl,trivial⟩ ?_)
      refine zaK 0 rfl ?_
      exact za1 (k+1,_,_,_) ⟨rfl,rfl,rfl,rfl,rfl,rfl,rfl,rfl,trivial⟩ rfl ⟨by omega,by omega,by rw [zC2 k0 hc39,←List.append_assoc,←k2],by simp only [List.length_append,List.length_singleton]; omega⟩ (by simp only []; omega)
     ·have hc39:=of_decide_eq_false hc39
      have hkall:M2=M++el.map zBN:=by rw [k2,List.take_of_length_le (by omega)]
      refine za8 rfl ?_
      refine zaa (gk_y rfl rfl (zaY rfl rfl (by omega) (by omega)) ?_)
      refine gM ?_
      refine zag (zae (T':=[(2,_),(3,_),(11,_),(12,_),(13,_)]) ⟨rfl,rfl,rfl,rfl,rfl,trivial⟩ ?_)
      exact za1 (i+1,_,_,_) ⟨rfl,rfl,rfl,rfl,rfl,trivial⟩ rfl ⟨by omega,by omega,by rw [zCf g0 hc14,hx,←g2]; exact hkall⟩ (by simp only []; omega)
  ·have hc14:=of_decide_eq_false hc14
   have hjz:=zC9 (l:=M) (n:=16) (by rw [g2]; exact fun u hu=>zCx (fun x hx=>hany x (List.mem_of_mem_take hx)) u hu)
   refine za8 rfl ?_
   refine zac (zaa (gM ?_))
   refine gQ (zaJ zEg rfl (fun w hw=>zEb b bc M w (zam ztJ (hw.has (p:=0) rfl)) (zcM (hw.has (p:=0) rfl)) (by omega) (by rw [g2]; exact fun u hu=>zCx (fun x hx=>hany x (List.mem_of_mem_take hx)) u hu))) ?_
   refine gQ (zBK rfl rfl (by have h:(⟨#[10]⟩:ByteArray).size=1:=rfl; omega)) ?_
   refine gA ?_
   refine zag (zae (T':=[(2,_)]) ⟨rfl,trivial⟩ ?_)
   refine zaw (zay (zaC rfl (zau rfl)) ?_)
   rw [show M=L.flatMap zBO from by rw [g2,List.take_of_length_le (by omega)]]; rfl
end Go.Proofs.YtdcfcfhmkfkgmaaGreatDoor
namespace Go.Pln
open Go Go.K Go.RowKit Go.Stn Go.Txt
theorem zBS {a b:ByteArray} (h:a.data.toList=b.data.toList):a=b:=by rw [←zns a,←zns b,h]
theorem zBM {n:Int} (h:Nm n):(Lib.itoa n).length≤6:=by have:=zBY h; rwa [zCr] at this
structure zDR (o:Opn):Prop where
 k:1≤o.kind∧o.kind≤4
 a:Nm o.at_
 w:Nm o.width
 f:Nm o.frm
 h:Nm o.high
structure zCU (v:Wll):Prop where
 name:zgx v.name=true
 sheet:zgx v.sheet=true
 len:Nm v.length
 num:v.opens.length≤20
 ops:∀ o∈v.opens,zDR o
structure zDC (S:List Sht) (V:List Wll):Prop where
 ls:S.length≤20
 lv:V.length≤50
 sh:∀ s∈S,Full s∧s.heights.length≤12
 wl:∀ v∈V,zCU v
theorem zDy {v:Wll} (h:zCU v):(zCi v).length≤2200:=by
 unfold zCi
 have h1:=zCn h.name h.sheet h.len
 have h2:=zCd (f:=zBR) (n:=100) (l:=v.opens) (fun o ho=>by have:=h.ops o ho; exact zCk this.a this.w this.f this.h)
 have h3:=h.num
 rw [List.length_append]
 omega
theorem zCX {S:List ShC} {V:List WlC} (h:zc4 S V=true):zDC (S.map (·.s)) (V.map (·.s)):=by
 have hb:=zDS h
 refine⟨hb.ls,hb.lv,fun s hs=>⟨zDm (hb.sh s hs),(zaZ (hb.sh s hs)).len.2⟩,fun v hv=>?_⟩
 have hw:=hb.wv v hv
 refine⟨hw.name,hw.sheet,hw.len,(zgM (zqW (hw.pre v.opens [] (by simp)))).2,fun o ho=>?_⟩
 have hf:=hw.fits o ho
 have e2:=hf.w; have e3:=hf.a; have e4:=hf.h; have e5:=hf.f; have e6:=hf.l; have e7:=hw.top
 exact⟨hf.k,by unfold Nm; omega,by unfold Nm; omega,by unfold Nm; omega,by unfold Nm; omega⟩
theorem zCj {S:List ShC} {V:List Wll} (h:zDC (S.map (·.s)) V):(∀ z∈S,Full z.s∧z.s.heights.length≤12)∧S.length≤20:=
 ⟨fun z hz=>h.sh z.s (List.mem_map_of_mem hz),by have:=h.ls; rwa [List.length_map] at this⟩
theorem zCq {S:List Sht} {V:List WlC} (h:zDC S (V.map (·.s))):(∀ z∈V,zCU z.s)∧V.length≤50:=
 ⟨fun z hz=>h.wl z.s (List.mem_map_of_mem hz),by have:=h.lv; rwa [List.length_map] at this⟩
def shsT (S:List ShC):List UInt8:=S.flatMap fun z=>zBU z.s
def wlsT (V:List WlC):List UInt8:=V.flatMap fun z=>zCi z.s
theorem zCl (S:List ShC) (V:List WlC):zDQ ⟨S.map (·.s),V.map (·.s)⟩=shsT S++wlsT V:=by
 unfold zDQ shsT wlsT
 rw [List.flatMap_map,List.flatMap_map]
theorem zCH {S:List ShC} (h:∀ z∈S,Full z.s∧z.s.heights.length≤12) (hl:S.length≤20) (n:Nat):(shsT (S.take n)).length≤16000:=by
 have h1:=zCd (f:=fun z:ShC=>zBU z.s) (n:=800) (l:=S.take n) (fun z hz=>zCu (h z (List.mem_of_mem_take hz)).1 (h z (List.mem_of_mem_take hz)).2)
 have h2:(S.take n).length≤20:=by rw [List.length_take]; omega
 unfold shsT
 omega
theorem zDz {V:List WlC} (h:∀ z∈V,zCU z.s) (hl:V.length≤50) (n:Nat):(wlsT (V.take n)).length≤110000:=by
 have h1:=zCd (f:=fun z:WlC=>zCi z.s) (n:=2200) (l:=V.take n) (fun z hz=>zDy (h z (List.mem_of_mem_take hz)))
 have h2:(V.take n).length≤50:=by rw [List.length_take]; omega
 unfold wlsT
 omega
theorem zDt {v:Wll} (h:zCU v) (n:Nat):((v.opens.take n).flatMap zBR).length≤2000:=by
 have h1:=zCd (f:=zBR) (n:=100) (l:=v.opens.take n) (fun o ho=>by have:=h.ops o (List.mem_of_mem_take ho); exact zCk this.a this.w this.f this.h)
 have h2:(v.opens.take n).length≤20:=by have:=h.num; rw [List.length_take]; omega
 omega
end Go.Pln
namespace Go.Proofs.YtdcfcfhmkfkgmaaGreatDoor
open Go.K Go.Stn Go.Pln Go.RowKit
theorem zCw {k:Int} (h:0≤k∧k≤3):zy1 true k=zCV k:=by
 obtain rfl | rfl | rfl | rfl:k=0∨k=1∨k=2∨k=3:=by omega
 all_goals rfl
theorem zCN {S:List ShC} {i:Int} (h0:0≤i) (h:i < (S.length:Int)):shsT (S.take (i+1).toNat)=shsT (S.take i.toNat)++zBU (S.getD i.toNat default).s:=zh6 h0 h
theorem zCQ {V:List WlC} {i:Int} (h0:0≤i) (h:i < (V.length:Int)):wlsT (V.take (i+1).toNat)=wlsT (V.take i.toNat)++zCi (V.getD i.toNat default).s:=zh6 h0 h
end Go.Proofs.YtdcfcfhmkfkgmaaGreatDoor
namespace Go.Proofs.YtdcfcfhmkfkgmaaGreatDoor
open Go.K Go.Stn Go.Pln Go.RowKit
theorem ztk (x0a:Option Addr) (x0n x0c:Nat) (w:World):(Instr.build 31 #[(0,.slice x0a x0n x0c)]).run Tryz.prog w=.ok (.agg #[.slice x0a x0n x0c,.slice none 0 0]) w:=by kernel_rfl
set_option maxRecDepth 100000 in
set_option maxHeartbeats 4000000 in
theorem ztt (a:Option Addr) (cap:Nat) (S:List ShC) (b:Option Addr) (bcap:Nat) (V:List WlC) (w:World) (hl:Has w (zaW a 20 zbH S)) (hs:Small S.length) (hcS:S.length≤cap) (hlw:Has w (zaW b 4 zbS V)) (hsw:Small V.length) (hsh:∀ z∈S,Has w (Ints z.a z.s.heights)) (hss:∀ z∈S,Small z.s.heights.length) (hwo:∀ z∈V,Has w (zaW z.a 5 zba z.s.opens)) (hsv:∀ z∈V,Small z.s.opens.length) (hcp:∀ z∈V,z.s.opens.length≤z.cap) (hkn:∀ z∈V,∀ o∈z.s.opens,Knd o) :
  Calls Tryz.prog 16 #[.agg #[.slice a S.length cap,.slice b V.length bcap]] w (Pure (.int .i64 (zeW S V)) w):=by
 refine zan (vs:=[_]) Tryz.func16 rfl rfl (Nat.le_of_ble_eq_true rfl) ?_
 refine zac (zaa (zaG rfl rfl (za3 (vs:=[_,_]) rfl rfl) fun b1=>?_))
 refine gA ?_
 refine zag (zae (T':=[(1,_),(2,_)]) ⟨rfl,rfl,trivial⟩ ?_)
 refine zac (zac (zbb 10 (fun _=>mixed) (by kernel_rfl) ?_))
 refine ph_y (zab zeo rfl) ?_
 refine ph_y (zah 0 tf28 rfl rfl rfl) ?_
 refine ph_y (zaV (Tryz.underlying28) rfl) ?_
 refine ph_y (zc6 rfl rfl) ?_
 refine ph_y (zaf rfl) ?_
 refine zaz rfl rfl (fun hgd=>by(try rw [hgd]); exact(zab zd7 rfl)) ?_
 refine zaz rfl rfl (fun hgd=>by(try rw [hgd]); exact(zah 0 tf29 rfl rfl rfl)) ?_
 refine zaz rfl rfl (fun hgd=>by(try rw [hgd]); exact(zaV (Tryz.underlying29) rfl)) ?_
 refine zaz rfl rfl (fun hgd=>by(try rw [hgd]); exact(zc6 rfl rfl)) ?_
 refine ph_y (zaR rfl rfl rfl) ?_
 refine zag (zae (T':=[(1,_),(2,_),(20,_)]) ⟨rfl,rfl,rfl,trivial⟩ ?_)
 refine zap rfl (fun hc20=>?_) (fun hc20=>?_)
 ·have hP:=zqs (S:=S) (V:=V) hc20
  refine zac (zaa (gA ?_))
  refine zag (zae (T':=[(1,_),(2,_)]) ⟨rfl,rfl,trivial⟩ ?_)
  refine zaw (zay (zaC rfl (zau rfl)) ?_)
  rw [zeW,hP]; rfl
 ·
  refine zaq (zac (zac (zaa (gk_y rfl rfl (zab zeo rfl) ?_))))
  refine gQ (zah 0 tf28 rfl rfl rfl) ?_
  refine gQ (zaV (Tryz.underlying28) rfl) ?_
  refine gM ?_
  refine zag (zae (T':=[(1,_),(2,_),(22,_),(23,_),(24,_)]) ⟨rfl,rfl,rfl,rfl,rfl,trivial⟩ ?_)
  refine zas ?_
  refine zbf (X:=Int) (fun(i:Int)=>[(1,.pointer (some ⟨b1,0,none⟩)),(2,.int .i64 0),(22,.slice a S.length cap),(23,.int .i64 (S.length:Int)),(24,.int .i64 i)]) (fun(i:Int)=>[Box b1 [.slice a S.length cap,.slice b V.length bcap] 31]) (fun(i:Int)=>(0≤i∧i≤S.length∧∀ j:Nat,(j:Int) < i→shAt S j=true)) (fun(i:Int)=>(S.length - i).toNat) 0 ⟨rfl,rfl,rfl,rfl,rfl,trivial⟩ rfl ?_ ?_
  ·exact⟨by omega,by omega,fun j hj=>by omega⟩
  ·rintro i hI
   obtain⟨g0,g1,g2⟩:=hI
   refine zac (zaa (gk_y rfl rfl (zbw rfl rfl) ?_))
   refine zag (zae (T':=[(1,_),(2,_),(22,_),(23,_),(24,_),(25,_)]) ⟨rfl,rfl,rfl,rfl,rfl,rfl,trivial⟩ ?_)
   refine zac (zap rfl (fun hc25=>?_) (fun hc25=>?_))
   ·have hc25:=of_decide_eq_true hc25
    refine zaq (zac (zas ?_))
    refine zac (zaa (gM ?_))
    refine gQ (zaE se28 rfl rfl (fun _ hw=>(Rd.has (Has.rd hl) hw)) (by omega) (by omega)) ?_
    refine gQ (zbv (vs:=[_,_,_,_,_,_,_,_,_,_,_,_,_,_,_,_,_,_,_,_]) tf41 rfl (fun _ hw=>(Rd.has (Has.rd hl) hw)) (by omega) (by omega) rfl) ?_
    refine zaG rfl rfl (zaL tf41 (zs:=[_,_,_,_,_,_,_,_,_,_,_,_,_,_,_,_,_,_,_,_]) rfl) fun b4=>?_
    refine gA ?_
    refine zbz 0 tf41 rfl rfl (vs:=[_,_,_,_,_,_,_,_,_,_,_,_,_,_,_,_,_,_,_,_]) rfl rfl rfl rfl rfl ?_
    refine zag (zae (T':=[(1,_),(2,_),(3,_),(4,_),(22,_),(23,_),(24,_)]) ⟨rfl,rfl,rfl,rfl,rfl,rfl,rfl,trivial⟩ ?_)
    refine zac (zf3 (ch [(11,Nat)]) 14 [0,1,0,7,15,0,32,127,255,511,511,0,3071,8191] (fun _=>mixed) (by kernel_rfl) (zjK _ ⟨inferInstance,trivial⟩) ?_)
    refine zbD (fun ρ=>zab zeo rfl) (fun ρ ρ' h=>by rfl) ?_
    refine zbD (fun ρ=>zah 1 tf28 rfl rfl rfl) (fun ρ ρ' h=>by rfl) ?_
    refine zbD (fun ρ=>zaf rfl) (fun ρ ρ' h=>by rfl) ?_
    refine zbD (fun ρ=>zg8 se28 rfl rfl (by omega) (by omega) hcS) (fun ρ ρ' h=>by rfl) ?_
    refine zbD (fun ρ=>zaI rfl (ztk _ _ _)) (fun ρ ρ' h=>by rfl) ?_
    refine zbD (fun ρ=>zab znb rfl) (fun ρ ρ' h=>by rfl) ?_
    refine zbD (fun ρ=>zah 0 tf9 rfl rfl rfl) (fun ρ ρ' h=>by rfl) ?_
    refine zbD (fun ρ=>zaJ en46 rfl (fun w hw=>zeu _ _ (S.take i.toNat) _ _ _ _ w (zje (Rd.has (Has.rd hl) hw) (by omega) (by omega)) (by rw [List.length_take]; have:=hs; unfold Small at *; omega))) (fun ρ ρ' h=>by rfl) ?_
    refine zbD (fun ρ=>zaf rfl) (fun ρ ρ' h=>by rfl) ?_
    refine zbD (fun ρ=>zaB rfl rfl) (fun ρ ρ' h=>by rfl) ?_
    refine zbD (fun ρ=>zaB rfl rfl) (fun ρ ρ' h=>by rfl) ?_
    refine zgB (fun ρ=>zaL tf41 (zs:=[_,_,_,_,_,_,_,_,_,_,_,_,_,_,_,_,_,_,_,_]) rfl) (fun ρ ρ' h=>⟨by rfl,by rfl⟩) ?_
    refine zlr (R:=fun ρ=>Box (ρ 11) [.string ⟨#[]⟩,.int .i64 0,.int .i64 0,.int .i64 0,.int .i64 0,.slice none 0 0,.int .i64 0,.int .i64 0,.int .i64 0,.int .i64 0,.int .i64 0,.int .i64 0,.int .i64 0,.int .u8 0,.int .i64 0,.int .i64 0,.int .i64 0,.int .i64 0,.int .i64 0,.int .i64 0] 41) (A:=fun ρ=>Box (ρ 11) [.string (zav (S.take i.toNat) ((S.getD (i).toNat default).s.name)).s.name,.int .i64 ((zav (S.take i.toNat) ((S.getD (i).toNat default).s.name)).s.base),.int .i64 ((zav (S.take i.toNat) ((S.getD (i).toNat default).s.name)).s.batter),.int .i64 ((zav (S.take i.toNat) ((S.getD (i).toNat default).s.name)).s.height),.int .i64 ((zav (S.take i.toNat) ((S.getD (i).toNat default).s.name)).s.skin),.slice (zav (S.take i.toNat) ((S.getD (i).toNat default).s.name)).a (zav (S.take i.toNat) ((S.getD (i).toNat default).s.name)).s.heights.length (zav (S.take i.toNat) ((S.getD (i).toNat default).s.name)).cap,.int .i64 ((zav (S.take i.toNat) ((S.getD (i).toNat default).s.name)).s.least),.int .i64 ((zav (S.take i.toNat) ((S.getD (i).toNat default).s.name)).s.lap),.int .i64 ((zav (S.take i.toNat) ((S.getD (i).toNat default).s.name)).s.run),.int .i64 ((zav (S.take i.toNat) ((S.getD (i).toNat default).s.name)).s.every),.int .i64 ((zav (S.take i.toNat) ((S.getD (i).toNat default).s.name)).s.at_),.int .i64 ((zav (S.take i.toNat) ((S.getD (i).toNat default).s.name)).s.footing),.int .i64 ((zav (S.take i.toNat) ((S.getD (i).toNat default).s.name)).s.spread),.int .u8 (zav (S.take i.toNat) ((S.getD (i).toNat default).s.name)).s.cope,.int .i64 ((zav (S.take i.toNat) ((S.getD (i).toNat default).s.name)).s.tall),.int .i64 ((zav (S.take i.toNat) ((S.getD (i).toNat default).s.name)).s.short),.int .i64 ((zav (S.take i.toNat) ((S.getD (i).toNat default).s.name)).s.thick),.int .i64 ((zav (S.take i.toNat) ((S.getD (i).toNat default).s.name)).s.low),.int .i64 ((zav (S.take i.toNat) ((S.getD (i).toNat default).s.name)).s.high),.int .i64 ((zav (S.take i.toNat) ((S.getD (i).toNat default).s.name)).s.rood)] 41) 11 rfl rfl (fun _=>rfl) (fun ρ=>zex tf41 rfl rfl (vs:=[_,_,_,_,_,_,_,_,_,_,_,_,_,_,_,_,_,_,_,_]) rfl rfl rfl rfl rfl) (fun ρ ρ' h=>by(first | rfl | simp only [h 11 rfl])) ?_
    refine zbD (fun ρ=>zad rfl) (fun ρ ρ' h=>by rfl) ?_
    refine fun ρ=>zag (zf4 (X:=Nat) (ρ 11) (fun b5=>[(1,.pointer (some ⟨b1,0,none⟩)),(2,.int .i64 0),(4,.pointer (some ⟨b4,0,none⟩)),(6,.bool (decide (0≤zaS (S.take i.toNat) ((S.getD (i).toNat default).s.name)))),(22,.slice a S.length cap),(23,.int .i64 (S.length:Int)),(24,.int .i64 i)]) (fun b5=>[Box b5 [.string (zav (S.take i.toNat) ((S.getD (i).toNat default).s.name)).s.name,.int .i64 ((zav (S.take i.toNat) ((S.getD (i).toNat default).s.name)).s.base),.int .i64 ((zav (S.take i.toNat) ((S.getD (i).toNat default).s.name)).s.batter),.int .i64 ((zav (S.take i.toNat) ((S.getD (i).toNat default).s.name)).s.height),.int .i64 ((zav (S.take i.toNat) ((S.getD (i).toNat default).s.name)).s.skin),.slice (zav (S.take i.toNat) ((S.getD (i).toNat default).s.name)).a (zav (S.take i.toNat) ((S.getD (i).toNat default).s.name)).s.heights.length (zav (S.take i.toNat) ((S.getD (i).toNat default).s.name)).cap,.int .i64 ((zav (S.take i.toNat) ((S.getD (i).toNat default).s.name)).s.least),.int .i64 ((zav (S.take i.toNat) ((S.getD (i).toNat default).s.name)).s.lap),.int .i64 ((zav (S.take i.toNat) ((S.getD (i).toNat default).s.name)).s.run),.int .i64 ((zav (S.take i.toNat) ((S.getD (i).toNat default).s.name)).s.every),.int .i64 ((zav (S.take i.toNat) ((S.getD (i).toNat default).s.name)).s.at_),.int .i64 ((zav (S.take i.toNat) ((S.getD (i).toNat default).s.name)).s.footing),.int .i64 ((zav (S.take i.toNat) ((S.getD (i).toNat default).s.name)).s.spread),.int .u8 (zav (S.take i.toNat) ((S.getD (i).toNat default).s.name)).s.cope,.int .i64 ((zav (S.take i.toNat) ((S.getD (i).toNat default).s.name)).s.tall),.int .i64 ((zav (S.take i.toNat) ((S.getD (i).toNat default).s.name)).s.short),.int .i64 ((zav (S.take i.toNat) ((S.getD (i).toNat default).s.name)).s.thick),.int .i64 ((zav (S.take i.toNat) ((S.getD (i).toNat default).s.name)).s.low),.int .i64 ((zav (S.take i.toNat) ((S.getD (i).toNat default).s.name)).s.high),.int .i64 ((zav (S.take i.toNat) ((S.getD (i).toNat default).s.name)).s.rood)] 41,Box b4 [.string (S.getD (i).toNat default).s.name,.int .i64 ((S.getD (i).toNat default).s.base),.int .i64 ((S.getD (i).toNat default).s.batter),.int .i64 ((S.getD (i).toNat default).s.height),.int .i64 ((S.getD (i).toNat default).s.skin),.slice (S.getD (i).toNat default).a (S.getD (i).toNat default).s.heights.length (S.getD (i).toNat default).cap,.int .i64 ((S.getD (i).toNat default).s.least),.int .i64 ((S.getD (i).toNat default).s.lap),.int .i64 ((S.getD (i).toNat default).s.run),.int .i64 ((S.getD (i).toNat default).s.every),.int .i64 ((S.getD (i).toNat default).s.at_),.int .i64 ((S.getD (i).toNat default).s.footing),.int .i64 ((S.getD (i).toNat default).s.spread),.int .u8 (S.getD (i).toNat default).s.cope,.int .i64 ((S.getD (i).toNat default).s.tall),.int .i64 ((S.getD (i).toNat default).s.short),.int .i64 ((S.getD (i).toNat default).s.thick),.int .i64 ((S.getD (i).toNat default).s.low),.int .i64 ((S.getD (i).toNat default).s.high),.int .i64 ((S.getD (i).toNat default).s.rood)] 41,Box b1 [.slice a S.length cap,.slice b V.length bcap] 31]) ⟨rfl,rfl,rfl,rfl,rfl,rfl,rfl,trivial⟩ rfl ?_)
    rintro b5
    refine zac (zbb 6 (fun _=>mixed) (by kernel_rfl) ?_)
    refine ph_y (zaf rfl) ?_
    refine ph_y (zaf rfl) ?_
    refine zaz rfl rfl (fun hgd=>by(try rw [hgd]); exact(zat 1 tf41 rfl rfl (vs:=[_,_,_,_,_,_,_,_,_,_,_,_,_,_,_,_,_,_,_,_]) rfl rfl)) ?_
    refine zaz rfl rfl (fun hgd=>by(try rw [hgd]); exact(zaJ (v:=.int .i64 (zcX ((S.getD (i).toNat default).s))) en20 rfl (fun w hw=>zd4 ((S.getD (i).toNat default).a) ((S.getD (i).toNat default).cap) ((S.getD (i).toNat default).s) w (Rd.has (Has.rd (hsh _ (za0 (by omega)))) hw) (hss _ (za0 (by omega)))))) ?_
    refine zaz rfl rfl (fun hgd=>by(try rw [hgd]); exact(zcr rfl rfl)) ?_
    refine ph_y (zaR rfl rfl rfl) ?_
    refine zag (zae (T':=[(1,_),(2,_),(22,_),(23,_),(24,_),(45,_)]) ⟨rfl,rfl,rfl,rfl,rfl,rfl,trivial⟩ ?_)
    refine zap rfl (fun hc45=>?_) (fun hc45=>?_)
    ·have hno:shAt S i.toNat=false:=zqg ((zqK g0 hc25).symm.trans hc45)
     refine zac (zaa (gA ?_))
     refine zag (zae (T':=[(1,_),(2,_),(22,_),(23,_),(24,_)]) ⟨rfl,rfl,rfl,rfl,rfl,trivial⟩ ?_)
     refine zaw (zay (zaC rfl (zau rfl)) ?_)
     rw [zeW,znF g0 hc25 hno]; rfl
    ·have hyes:shAt S i.toNat=true:=zll ((zqK g0 hc25).symm.trans hc45)
     refine zaq (zaa (gk_y rfl rfl (zaY rfl rfl (by omega) (by omega)) ?_))
     refine gM ?_
     refine zag (zae (T':=[(1,_),(2,_),(22,_),(23,_),(24,_)]) ⟨rfl,rfl,rfl,rfl,rfl,trivial⟩ ?_)
     refine zaK 0 rfl ?_
     refine zaK 0 rfl ?_
     exact za1 (i+1) ⟨rfl,rfl,rfl,rfl,rfl,trivial⟩ rfl ⟨by omega,by omega,zdu g0 g2 hyes⟩ (by omega)
   ·have hc25:=of_decide_eq_false hc25
    have hS:=zg3 (S:=S) (fun j hj=>g2 j (by omega))
    refine za8 rfl ?_
    refine zac (zac (zaa (gk_y rfl rfl (zab zd7 rfl) ?_)))
    refine gQ (zah 0 tf29 rfl rfl rfl) ?_
    refine gQ (zaV (Tryz.underlying29) rfl) ?_
    refine gM ?_
    refine zag (zae (T':=[(1,_),(2,_),(48,_),(49,_),(50,_)]) ⟨rfl,rfl,rfl,rfl,rfl,trivial⟩ ?_)
    refine zas ?_
    refine zbf (X:=Int) (fun(i:Int)=>[(1,.pointer (some ⟨b1,0,none⟩)),(2,.int .i64 0),(48,.slice b V.length bcap),(49,.int .i64 (V.length:Int)),(50,.int .i64 i)]) (fun(i:Int)=>[Box b1 [.slice a S.length cap,.slice b V.length bcap] 31]) (fun(i:Int)=>(0≤i∧i≤V.length∧∀ j:Nat,(j:Int) < i→wlAt S V j=true)) (fun(i:Int)=>(V.length - i).toNat) 0 ⟨rfl,rfl,rfl,rfl,rfl,trivial⟩ rfl ?_ ?_
    ·exact⟨by omega,by omega,fun j hj=>by omega⟩
    ·rintro i hI
     have gi2:=g2; have hgi:=hc25
     rename_i ii
     obtain⟨k0,k1,k2⟩:=hI
     refine zac (zaa (gk_y rfl rfl (zbw rfl rfl) ?_))
     refine zag (zae (T':=[(1,_),(2,_),(48,_),(49,_),(50,_),(51,_)]) ⟨rfl,rfl,rfl,rfl,rfl,rfl,trivial⟩ ?_)
     refine zac (zap rfl (fun hc51=>?_) (fun hc51=>?_))
     ·have hc51:=of_decide_eq_true hc51
      refine zaq (zac (zas ?_))
      refine zac (zaa (gM ?_))
      refine gQ (zaE se29 rfl rfl (fun _ hw=>(Rd.has (Has.rd hlw) hw)) (by omega) (by omega)) ?_
      refine gQ (zbv (vs:=[_,_,_,_]) tf94 rfl (fun _ hw=>(Rd.has (Has.rd hlw) hw)) (by omega) (by omega) rfl) ?_
      refine zaG rfl rfl (zaL tf94 (zs:=[_,_,_,_]) rfl) fun b8=>?_
      refine gA ?_
      refine zaA 0 tf94 rfl rfl (vs:=[_,_,_,_]) rfl rfl rfl rfl rfl ?_
      refine zag (zae (T':=[(1,_),(2,_),(7,_),(8,_),(48,_),(49,_),(50,_)]) ⟨rfl,rfl,rfl,rfl,rfl,rfl,rfl,trivial⟩ ?_)
      refine zac (zaa (gk_y rfl rfl (zat 1 tf31 rfl rfl (vs:=[_,_]) rfl rfl) ?_))
      refine gQ (zab zni rfl) ?_
      refine gQ (zah 0 tf9 rfl rfl rfl) ?_
      refine gQ (zaJ en46 rfl (fun w hw=>zeu _ _ S _ _ _ _ w (Rd.has (Has.rd hl) hw) (by assumption))) ?_
      refine gM ?_
      refine gQ (zaB rfl rfl) ?_
      refine gQ (zaB rfl rfl) ?_
      refine zaG rfl rfl (zaL tf41 (zs:=[_,_,_,_,_,_,_,_,_,_,_,_,_,_,_,_,_,_,_,_]) rfl) fun b9=>?_
      refine zbz 0 tf41 rfl rfl (vs:=[_,_,_,_,_,_,_,_,_,_,_,_,_,_,_,_,_,_,_,_]) rfl rfl rfl rfl rfl ?_
      refine gA ?_
      refine zag (zae (T':=[(1,_),(2,_),(7,_),(8,_),(9,_),(10,_),(48,_),(49,_),(50,_)]) ⟨rfl,rfl,rfl,rfl,rfl,rfl,rfl,rfl,rfl,trivial⟩ ?_)
      refine zac (zbb 16 (fun _=>mixed) (by kernel_rfl) ?_)
      refine ph_y (zaf rfl) ?_
      refine ph_y (zbR rfl) ?_
      refine ph_y (zaf rfl) ?_
      refine zaz rfl rfl (fun hgd=>by(try rw [hgd]); exact(zat 2 tf31 rfl rfl (vs:=[_,_]) rfl rfl)) ?_
      refine zaz rfl rfl (fun hgd=>by(try rw [hgd]); exact(zab znh rfl)) ?_
      refine zaz rfl rfl (fun hgd=>by(try rw [hgd]); exact(zah 1 tf9 rfl rfl rfl)) ?_
      refine zaz rfl rfl (fun hgd=>by(try rw [hgd]); exact(zaJ (v:=.int .i64 (zaM V ((V.getD (i).toNat default).s.name))) en47 rfl (fun w hw=>zkg _ _ _ _ _ V _ w (Rd.has (Has.rd hlw) hw) (by assumption)))) ?_
      refine zaz rfl rfl (fun hgd=>by(try rw [hgd]); exact(zaf rfl)) ?_
      refine zaz rfl rfl (fun hgd=>by(try rw [hgd]); exact(zbw rfl rfl)) ?_
      refine ph_y (zaR rfl rfl rfl) ?_
      refine ph_y (zaf rfl) ?_
      refine zaz rfl rfl (fun hgd=>by(try rw [hgd]); exact(zat 1 tf94 rfl rfl (vs:=[_,_,_,_]) rfl rfl)) ?_
      refine zaz rfl rfl (fun hgd=>by(try rw [hgd]); exact(zat 0 tf41 rfl rfl (vs:=[_,_,_,_,_,_,_,_,_,_,_,_,_,_,_,_,_,_,_,_]) rfl rfl)) ?_
      refine zaz rfl rfl (fun hgd=>by(try rw [hgd]); exact(zaJ (v:=.bool (zd1 ((zav S ((V.getD (i).toNat default).s.sheet)).s).height ((V.getD (i).toNat default).s))) en48 rfl (fun w hw=>zmI ((V.getD (i).toNat default).a) ((V.getD (i).toNat default).cap) ((V.getD (i).toNat default).s) ((zav S ((V.getD (i).toNat default).s.sheet)).a) ((zav S ((V.getD (i).toNat default).s.sheet)).cap) ((zav S ((V.getD (i).toNat default).s.sheet)).s) w (Rd.has (Has.rd (hwo _ (za0 (by omega)))) hw) (hcp _ (za0 (by omega))) (hsv _ (za0 (by omega))) (hkn _ (za0 (by omega))) (zog hS)))) ?_
      refine zaz rfl rfl (fun hgd=>by(try rw [hgd]); exact(zbR rfl)) ?_
      refine ph_y (zaR rfl rfl rfl) ?_
      refine zag (zae (T':=[(1,_),(2,_),(48,_),(49,_),(50,_),(77,_)]) ⟨rfl,rfl,rfl,rfl,rfl,rfl,trivial⟩ ?_)
      refine zap rfl (fun hc77=>?_) (fun hc77=>?_)
      ·have hno:wlAt S V i.toNat=false:=zqg ((zqY k0 hc51).symm.trans hc77)
       refine zac (zaa (gA ?_))
       refine zag (zae (T':=[(1,_),(2,_),(48,_),(49,_),(50,_)]) ⟨rfl,rfl,rfl,rfl,rfl,trivial⟩ ?_)
       refine zaw (zay (zaC rfl (zau rfl)) ?_)
       rw [zeW,znG k0 hc51 hno]; rfl
      ·have hyes:wlAt S V i.toNat=true:=zll ((zqY k0 hc51).symm.trans hc77)
       refine zaq (zaa (gk_y rfl rfl (zaY rfl rfl (by omega) (by omega)) ?_))
       refine gM ?_
       refine zag (zae (T':=[(1,_),(2,_),(48,_),(49,_),(50,_)]) ⟨rfl,rfl,rfl,rfl,rfl,trivial⟩ ?_)
       refine zaK 0 rfl ?_
       refine zaK 0 rfl ?_
       exact za1 (i+1) ⟨rfl,rfl,rfl,rfl,rfl,trivial⟩ rfl ⟨by omega,by omega,zdu k0 k2 hyes⟩ (by omega)
     ·have hc51:=of_decide_eq_false hc51
      refine za8 rfl ?_
      refine zac (zaa (gA ?_))
      refine zag (zae (T':=[(2,_)]) ⟨rfl,trivial⟩ ?_)
      refine zaw (zay (zaC rfl (zau rfl)) ?_)
      rw [zeW,znH hc25 hc51 g2 k2]; simp only [Bool.or_eq_false_iff,decide_eq_false_iff_not] at hc20; rw [decide_eq_true (by omega),decide_eq_true (by omega)]; rfl
end Go.Proofs.YtdcfcfhmkfkgmaaGreatDoor
namespace Go.Proofs.YtdcfcfhmkfkgmaaGreatDoor
open Go.K Go.Stn Go.Pln Go.RowKit
theorem zEe:AE Tryz.prog 137 9 4 1:=⟨Tryz.underlying137,by kernel_rfl⟩
theorem zEf:AE Tryz.prog 138 9 5 1:=⟨Tryz.underlying138,by kernel_rfl⟩
theorem en16:En Tryz.prog 16:=za7 Tryz.func16 (by kernel_rfl) (by kernel_rfl)
theorem en70:En Tryz.prog 70:=za7 Tryz.func70 (by kernel_rfl) (by kernel_rfl)
theorem zCS {c:Cx} {ds:List Deferred} {T:List (Nat×Value)} {H:List Res} {d:Option Nat} {ty:TypeId} {ps:String} {af:Array Edge} {g:Option (Nat×Bool)} {x y:Operand} {t e:TypeId} {n k b o:Nat} {kd:IntKind} {i:Int} (ht:AE c.P t e n k) (hx:evo T x=some (.pointer (some ⟨b,o,none⟩))) (hy:evo T y=some (.int kd i)) (h0:0≤i) (h1:i < (n:Int)) :
  Y c ds H T ⟨d,.indexAddr t x y,ty,ps,af,g⟩ (epx (some ⟨b,o,none⟩) (i.toNat*k)):=by
 have e:epx (some ⟨b,o,none⟩) (i.toNat*k)=.pointer (some ⟨b,o+i.toNat*k,none⟩):=by unfold epx; simp [Addr.add]
 rw [e]
 exact zDN i.toNat ht hx hy (by omega) (by omega)
def zBT (s:Sht) (a:Option Addr) (c:Nat):List AnyV:=[.str (⟨#[115,104,101,101,116]⟩:ByteArray),.str s.name,.str (⟨#[98,97,115,101]⟩:ByteArray),.num s.base,.str (⟨#[98,97,116,116,101,114]⟩:ByteArray),.num s.batter,.str (⟨#[104,101,105,103,104,116]⟩:ByteArray),.num s.height,.str (⟨#[115,107,105,110]⟩:ByteArray),.num s.skin,.str (⟨#[104,101,105,103,104,116,115]⟩:ByteArray),.nums a c s.heights,.str (⟨#[108,101,97,115,116]⟩:ByteArray),.num s.least,.str (⟨#[108,97,112]⟩:ByteArray),.num s.lap,.str (⟨#[114,117,110]⟩:ByteArray),.num s.run,
 .str (⟨#[116,104,114,111,117,103,104]⟩:ByteArray),.num s.every,.num s.at_,.str (⟨#[102,111,111,116,105,110,103]⟩:ByteArray),.num s.footing,.num s.spread,.str (⟨#[99,111,112,101]⟩:ByteArray),.str (zCV s.cope),.num s.tall,.num s.short,.num s.thick,.str (⟨#[102,114,105,99,116,105,111,110]⟩:ByteArray),.num s.low,.num s.high,.str (⟨#[114,111,111,100]⟩:ByteArray),.num s.rood]
def zB5 (v:Wll):List AnyV:=[.str (⟨#[119,97,108,108]⟩:ByteArray),.str v.name,.str v.sheet,.num v.length]
def zCa (o:Opn):List AnyV:=[.str (⟨#[111,112,101,110]⟩:ByteArray),.str (opnW o.kind),.num o.at_,.num o.width,.num o.frm,.num o.high]
theorem zCF (s:Sht) (a:Option Addr) (c:Nat):zDa ((zBT s a c).flatMap zBO)=bs (zBU s):=by
 have e:(zBT s a c).flatMap zBO=(⟨#[115,104,101,101,116]⟩:ByteArray) :: zB3 s:=by
  unfold zBT zB3 zCM
  simp [zBO]
 rw [e,zCe]; rfl
theorem zCO (v:Wll):zDa ((zB5 v).flatMap zBO)=bs (zBX v++[10]):=by
 rw [show(zB5 v).flatMap zBO=(⟨#[119,97,108,108]⟩:ByteArray) :: zCv v from rfl,zCe]; rfl
theorem zCJ (o:Opn):zDa ((zCa o).flatMap zBO)=bs (zBR o):=by
 rw [show(zCa o).flatMap zBO=(⟨#[111,112,101,110]⟩:ByteArray) :: zCt o from rfl,zCe]; rfl
theorem zCZ {w:World} {s:Sht} {a:Option Addr} {c:Nat} (h:Full s) (hl:s.heights.length≤12) (hh:Has w (Ints a s.heights)):∀ x∈zBT s a c,zCT w x:=by
 unfold zBT
 intro x hx
 simp only [List.mem_cons,List.not_mem_nil,or_false] at hx
 rcases hx with rfl | rfl | rfl | rfl | rfl | rfl | rfl | rfl | rfl | rfl | rfl | rfl | rfl | rfl | rfl | rfl | rfl | rfl | rfl | rfl | rfl | rfl | rfl | rfl | rfl | rfl | rfl | rfl | rfl | rfl | rfl | rfl | rfl | rfl
 all_goals first
  | exact zBQ h.name
  | exact zCz _
  | exact h.base | exact h.batter | exact h.height | exact h.skin | exact h.least | exact h.lap | exact h.run | exact h.every | exact h.at_ | exact h.footing | exact h.spread | exact h.tall | exact h.short | exact h.thick | exact h.low | exact h.high | exact h.rood
  | exact⟨hh,by omega,h.each⟩
  | exact(show ByteArray.size _≤16 by decide)
theorem zDg {w:World} {v:Wll} (h:zCU v):∀ x∈zB5 v,zCT w x:=by
 unfold zB5
 intro x hx
 simp only [List.mem_cons,List.not_mem_nil,or_false] at hx
 rcases hx with rfl | rfl | rfl | rfl
 ·exact(show ByteArray.size _≤16 by decide)
 ·exact zBQ h.name
 ·exact zBQ h.sheet
 ·exact h.len
theorem zDc {w:World} {o:Opn} (h:zDR o):∀ x∈zCa o,zCT w x:=by
 unfold zCa
 intro x hx
 simp only [List.mem_cons,List.not_mem_nil,or_false] at hx
 rcases hx with rfl | rfl | rfl | rfl | rfl | rfl
 ·exact(show ByteArray.size _≤16 by decide)
 ·exact zDs _
 ·exact h.a
 ·exact h.w
 ·exact h.f
 ·exact h.h
theorem zDI (a:Option Addr) (cap:Nat) (s:Sht) (ha:Option Addr) (hc:Nat) (w:World) (hl:Has w (zaW a 1 encA (zBT s ha hc))) (h:Full s) (h12:s.heights.length≤12) (hh:Has w (Ints ha s.heights)) (hp:Has w (VarR 3 zB1)) :
  Calls Tryz.prog 70 #[.slice a 34 cap] w (Pure (.string (bs (zBU s))) w):=by
 rw [←zCF s ha hc]
 exact zCD a cap (zBT s ha hc) w hl (by show(34:Nat)≤100; decide) (zCZ h h12 hh) hp
theorem zD0 (a:Option Addr) (cap:Nat) (v:Wll) (w:World) (hl:Has w (zaW a 1 encA (zB5 v))) (h:zCU v) (hp:Has w (VarR 3 zB1)) :
  Calls Tryz.prog 70 #[.slice a 4 cap] w (Pure (.string (bs (zBX v++[10]))) w):=by
 rw [←zCO v]
 exact zCD a cap (zB5 v) w hl (by show(4:Nat)≤100; decide) (zDg h) hp
theorem zDZ (a:Option Addr) (cap:Nat) (o:Opn) (w:World) (hl:Has w (zaW a 1 encA (zCa o))) (h:zDR o) (hp:Has w (VarR 3 zB1)) :
  Calls Tryz.prog 70 #[.slice a 6 cap] w (Pure (.string (bs (zBR o))) w):=by
 rw [←zCJ o]
 exact zCD a cap (zCa o) w hl (by show(6:Nat)≤100; decide) (zDc h) hp
def zCh (S:List ShC) (V:List WlC):ByteArray:=if zc4 S V=true then bs (shsT S++wlsT V) else⟨#[]⟩
theorem zDT (s:Sht) (a:Option Addr) (c:Nat) (w:World):(Instr.buildSlice 178 34 #[(0,.iface 9 (.string (⟨#[115,104,101,101,116]⟩:ByteArray))),(1,.iface 9 (.string s.name)),(2,.iface 9 (.string (⟨#[98,97,115,101]⟩:ByteArray))),(3,.iface 3 (.int .i64 s.base)),(4,.iface 9 (.string (⟨#[98,97,116,116,101,114]⟩:ByteArray))),(5,.iface 3 (.int .i64 s.batter)),(6,.iface 9 (.string (⟨#[104,101,105,103,104,116]⟩:ByteArray))),(7,.iface 3 (.int .i64 s.height)),(8,.iface 9 (.string (⟨#[115,107,105,110]⟩:ByteArray))),(9,.iface 3 (.int .i64 s.skin)),(10,.iface 9 (.string (⟨#[104,101,105,103,104,116,115]⟩:ByteArray))),(11,.iface 35 (.slice a s.heights.length c)),(12,.iface 9 (.string (⟨#[108,101,97,115,116]⟩:ByteArray))),(13,.iface 3 (.int .i64 s.least)),(14,.iface 9 (.string (⟨#[108,97,112]⟩:ByteArray))),(15,.iface 3 (.int .i64 s.lap)),(16,.iface 9 (.string (⟨#[114,117,110]⟩:ByteArray))),(17,.iface 3 (.int .i64 s.run)),(18,.iface 9 (.string (⟨#[116,104,114,111,117,103,104]⟩:ByteArray))),(19,.iface 3 (.int .i64 s.every)),(20,.iface 3 (.int .i64 s.at_)),(21,.iface 9 (.string (⟨#[102,111,111,116,105,110,103]⟩:ByteArray))),(22,.iface 3 (.int .i64 s.footing)),(23,.iface 3 (.int .i64 s.spread)),(24,.iface 9 (.string (⟨#[99,111,112,101]⟩:ByteArray))),(25,.iface 9 (.string (zCV s.cope))),(26,.iface 3 (.int .i64 s.tall)),(27,.iface 3 (.int .i64 s.short)),(28,.iface 3 (.int .i64 s.thick)),(29,.iface 9 (.string (⟨#[102,114,105,99,116,105,111,110]⟩:ByteArray))),(30,.iface 3 (.int .i64 s.low)),(31,.iface 3 (.int .i64 s.high)),(32,.iface 9 (.string (⟨#[114,111,111,100]⟩:ByteArray))),(33,.iface 3 (.int .i64 s.rood))]).run Tryz.prog w=.ok (.slice (some ⟨w.heap.size,0,none⟩) 34 34) (w.alloc (.cells ((zBT s a c).flatMap encA).toArray 20)):=by kernel_rfl
theorem zD6 (v:Wll) (w:World):(Instr.buildSlice 178 4 #[(0,.iface 9 (.string (⟨#[119,97,108,108]⟩:ByteArray))),(1,.iface 9 (.string v.name)),(2,.iface 9 (.string v.sheet)),(3,.iface 3 (.int .i64 v.length))]).run Tryz.prog w=.ok (.slice (some ⟨w.heap.size,0,none⟩) 4 4) (w.alloc (.cells ((zB5 v).flatMap encA).toArray 20)):=by kernel_rfl
theorem zD5 (o:Opn) (w:World):(Instr.buildSlice 178 6 #[(0,.iface 9 (.string (⟨#[111,112,101,110]⟩:ByteArray))),(1,.iface 9 (.string (opnW o.kind))),(2,.iface 3 (.int .i64 o.at_)),(3,.iface 3 (.int .i64 o.width)),(4,.iface 3 (.int .i64 o.frm)),(5,.iface 3 (.int .i64 o.high))]).run Tryz.prog w=.ok (.slice (some ⟨w.heap.size,0,none⟩) 6 6) (w.alloc (.cells ((zCa o).flatMap encA).toArray 20)):=by kernel_rfl
set_option maxRecDepth 100000 in
set_option maxHeartbeats 32000000 in
theorem zD1 (a:Option Addr) (cap:Nat) (S:List ShC) (b:Option Addr) (bcap:Nat) (V:List WlC) (w:World) (hl:Has w (zaW a 20 zbH S)) (hs:Small S.length) (hcS:S.length≤cap) (hlw:Has w (zaW b 4 zbS V)) (hsw:Small V.length) (hsh:∀ z∈S,Has w (Ints z.a z.s.heights)) (hss:∀ z∈S,Small z.s.heights.length) (hwo:∀ z∈V,Has w (zaW z.a 5 zba z.s.opens)) (hsv:∀ z∈V,Small z.s.opens.length) (hcp:∀ z∈V,z.s.opens.length≤z.cap) (hkn:∀ z∈V,∀ o∈z.s.opens,Knd o) (hp10:Has w (VarR 3 zB1)) (hgc:Has w (zaW (some ⟨0,0,none⟩) 1 encS copesW)) (hgo:Has w (zaW (some ⟨1,0,none⟩) 1 encS opensW)) :
  Calls Tryz.prog 37 #[.agg #[.slice a S.length cap,.slice b V.length bcap]] w (Pure (.tuple #[.string (zCh S V),.int .i64 (zeW S V)]) w):=by
 refine zan (vs:=[_]) Tryz.func37 rfl rfl (Nat.le_of_ble_eq_true rfl) ?_
 refine zac (zaa (zaG rfl rfl (za3 (vs:=[_,_]) rfl rfl) fun b1=>?_))
 refine gA ?_
 refine gA ?_
 refine zag (zae (T':=[(1,_),(2,_),(3,_)]) ⟨rfl,rfl,rfl,trivial⟩ ?_)
 refine zac (zac (zaa (gk_y rfl rfl (zat 0 tf31 rfl rfl (vs:=[_,_]) rfl rfl) ?_)))
 refine gQ (zaJ en16 rfl (fun w hw=>ztt _ _ S _ _ V w (Rd.has (Has.rd hl) hw) hs hcS (Rd.has (Has.rd hlw) hw) hsw (fun z hz=>Rd.has (Has.rd (hsh z hz)) hw) hss (fun z hz=>Rd.has (Has.rd (hwo z hz)) hw) hsv hcp hkn)) ?_
 refine gA ?_
 refine zag (zae (T':=[(1,_),(2,_),(3,_),(4,_)]) ⟨rfl,rfl,rfl,rfl,trivial⟩ ?_)
 refine zac (zaa (gM ?_))
 refine gQ (zcr rfl rfl) ?_
 refine zag (zae (T':=[(1,_),(2,_),(3,_),(4,_),(15,_)]) ⟨rfl,rfl,rfl,rfl,rfl,trivial⟩ ?_)
 refine zap rfl (fun hc15=>?_) (fun hc15=>?_)
 ·have hP:¬ zc4 S V=true:=fun e=>by simp [show zeW S V=0 from if_pos e] at hc15
  refine zac (zaa (gM ?_))
  refine gA ?_
  refine gA ?_
  refine zag (zae (T':=[(1,_),(2,_),(3,_)]) ⟨rfl,rfl,rfl,trivial⟩ ?_)
  refine zaw (zay (zc2 rfl (zau rfl) (zau rfl)) ?_)
  rw [show zCh S V=⟨#[]⟩ from if_neg hP]
 ·have hP:zc4 S V=true:=Classical.byContradiction fun e=>by simp [show zeW S V=2 from if_neg e] at hc15
  have hcl4:copesW.length=4:=rfl
  have hol5:opensW.length=5:=rfl
  have hgd:=zCX hP
  obtain⟨hgS,hlS⟩:=zCj hgd
  obtain⟨hgW,hlV⟩:=zCq hgd
  refine zaq (zac (zaa (gA ?_)))
  refine zag (zae (T':=[(1,_),(2,_),(3,_),(5,_)]) ⟨rfl,rfl,rfl,rfl,trivial⟩ ?_)
  refine zac (zac (zaa (gk_y rfl rfl (zab zeo rfl) ?_)))
  refine gQ (zah 0 tf28 rfl rfl rfl) ?_
  refine gQ (zaV (Tryz.underlying28) rfl) ?_
  refine gM ?_
  refine zag (zae (T':=[(1,_),(2,_),(3,_),(5,_),(18,_),(19,_),(20,_)]) ⟨rfl,rfl,rfl,rfl,rfl,rfl,rfl,trivial⟩ ?_)
  refine zas ?_
  refine zbf (X:=Int) (fun(i:Int)=>[(1,.pointer (some ⟨b1,0,none⟩)),(2,.string (⟨#[]⟩:ByteArray)),(3,.int .i64 0),(5,.string (bs (shsT (S.take i.toNat)))),(18,.slice a S.length cap),(19,.int .i64 (S.length:Int)),(20,.int .i64 i)]) (fun(i:Int)=>[Box b1 [.slice a S.length cap,.slice b V.length bcap] 31]) (fun(i:Int)=>(0≤i∧i≤S.length)) (fun(i:Int)=>(S.length - i).toNat) 0 ⟨rfl,rfl,rfl,rfl,rfl,rfl,rfl,trivial⟩ rfl ?_ ?_
  ·exact⟨by omega,by omega⟩
  ·rintro i hI
   obtain⟨g0,g1⟩:=hI
   refine zac (zaa (gk_y rfl rfl (zbw rfl rfl) ?_))
   refine zag (zae (T':=[(1,_),(2,_),(3,_),(5,_),(18,_),(19,_),(20,_),(21,_)]) ⟨rfl,rfl,rfl,rfl,rfl,rfl,rfl,rfl,trivial⟩ ?_)
   refine zac (zap rfl (fun hc21=>?_) (fun hc21=>?_))
   ·have hc15:=of_decide_eq_true hc21
    have hfz:=hgS _ (za0 (l:=S) (i:=i.toNat) (by omega))
    have hf:=hfz.1
    have hh12:=hfz.2
    have hnm:=zBQ hf.name
    have hP:=zCH hgS hlS i.toNat
    have hcw:=zCw hf.cope
    have hcl:=zCz (S.getD (i).toNat default).s.cope
    have hst:=zCu hf hh12
    have hcp0:=hf.cope
    refine zaq (zac (zas ?_))
    refine zac (zaa (gk_y rfl rfl (zaE se28 rfl rfl (fun _ hw=>(Rd.has (Has.rd hl) hw)) (by omega) (by omega)) ?_))
    refine gQ (zbv (vs:=[_,_,_,_,_,_,_,_,_,_,_,_,_,_,_,_,_,_,_,_]) tf41 rfl (fun _ hw=>(Rd.has (Has.rd hl) hw)) (by omega) (by omega) rfl) ?_
    refine zaG rfl rfl (zaL tf41 (zs:=[_,_,_,_,_,_,_,_,_,_,_,_,_,_,_,_,_,_,_,_]) rfl) fun b7=>?_
    refine zbz 0 tf41 rfl rfl (vs:=[_,_,_,_,_,_,_,_,_,_,_,_,_,_,_,_,_,_,_,_]) rfl rfl rfl rfl rfl ?_
    refine zag (zae (T':=[(1,_),(2,_),(3,_),(5,_),(7,_),(18,_),(19,_),(20,_)]) ⟨rfl,rfl,rfl,rfl,rfl,rfl,rfl,rfl,trivial⟩ ?_)
    refine zbb 81 (fun _=>mixed) (by kernel_rfl) ?_
    refine ph_y (zaf rfl) ?_
    refine ph_y (zuZ if9 rfl) ?_
    refine ph_y (zab znb rfl) ?_
    refine ph_y (zah 0 tf9 rfl rfl rfl) ?_
    refine ph_y (zuZ if9 rfl) ?_
    refine ph_y (zuZ if9 rfl) ?_
    refine ph_y (zab znc rfl) ?_
    refine ph_y (zah 0 tf3 rfl rfl rfl) ?_
    refine ph_y (zuZ if3 rfl) ?_
    refine ph_y (zuZ if9 rfl) ?_
    refine ph_y (zab zpv rfl) ?_
    refine ph_y (zah 0 tf3 rfl rfl rfl) ?_
    refine ph_y (zuZ if3 rfl) ?_
    refine ph_y (zuZ if9 rfl) ?_
    refine ph_y (zab zep rfl) ?_
    refine ph_y (zah 0 tf3 rfl rfl rfl) ?_
    refine ph_y (zuZ if3 rfl) ?_
    refine ph_y (zuZ if9 rfl) ?_
    refine ph_y (zab znd rfl) ?_
    refine ph_y (zah 0 tf3 rfl rfl rfl) ?_
    refine ph_y (zuZ if3 rfl) ?_
    refine ph_y (zuZ if9 rfl) ?_
    refine ph_y (zab zia rfl) ?_
    refine ph_y (zah 0 tf35 rfl rfl rfl) ?_
    refine ph_y (zuZ if35 rfl) ?_
    refine ph_y (zuZ if9 rfl) ?_
    refine ph_y (zab zpw rfl) ?_
    refine ph_y (zah 0 tf3 rfl rfl rfl) ?_
    refine ph_y (zuZ if3 rfl) ?_
    refine ph_y (zuZ if9 rfl) ?_
    refine ph_y (zab zsK rfl) ?_
    refine ph_y (zah 0 tf3 rfl rfl rfl) ?_
    refine ph_y (zuZ if3 rfl) ?_
    refine ph_y (zuZ if9 rfl) ?_
    refine ph_y (zab zsL rfl) ?_
    refine ph_y (zah 0 tf3 rfl rfl rfl) ?_
    refine ph_y (zuZ if3 rfl) ?_
    refine ph_y (zuZ if9 rfl) ?_
    refine ph_y (zab zhc rfl) ?_
    refine ph_y (zah 0 tf3 rfl rfl rfl) ?_
    refine ph_y (zuZ if3 rfl) ?_
    refine ph_y (zab zh9 rfl) ?_
    refine ph_y (zah 0 tf3 rfl rfl rfl) ?_
    refine ph_y (zuZ if3 rfl) ?_
    refine ph_y (zuZ if9 rfl) ?_
    refine ph_y (zab zl8 rfl) ?_
    refine ph_y (zah 0 tf3 rfl rfl rfl) ?_
    refine ph_y (zuZ if3 rfl) ?_
    refine ph_y (zab zl9 rfl) ?_
    refine ph_y (zah 0 tf3 rfl rfl rfl) ?_
    refine ph_y (zuZ if3 rfl) ?_
    refine ph_y (zuZ if9 rfl) ?_
    refine ph_y (zab zjW rfl) ?_
    refine ph_y (zah 0 tf5 rfl rfl rfl) ?_
    refine ph_y (zCS zEe rfl rfl (by omega) (by omega)) ?_
    refine ph_y (zcE tf9 rfl (fun _ hw=>(Rd.has (Has.rd hgc) hw)) (by omega) (by omega) rfl) ?_
    refine ph_y (zuZ if9 rfl) ?_
    refine ph_y (zab zfc rfl) ?_
    refine ph_y (zah 0 tf3 rfl rfl rfl) ?_
    refine ph_y (zuZ if3 rfl) ?_
    refine ph_y (zab zf1 rfl) ?_
    refine ph_y (zah 0 tf3 rfl rfl rfl) ?_
    refine ph_y (zuZ if3 rfl) ?_
    refine ph_y (zab zfd rfl) ?_
    refine ph_y (zah 0 tf3 rfl rfl rfl) ?_
    refine ph_y (zuZ if3 rfl) ?_
    refine ph_y (zuZ if9 rfl) ?_
    refine ph_y (zab zpu rfl) ?_
    refine ph_y (zah 0 tf3 rfl rfl rfl) ?_
    refine ph_y (zuZ if3 rfl) ?_
    refine ph_y (zab zma rfl) ?_
    refine ph_y (zah 0 tf3 rfl rfl rfl) ?_
    refine ph_y (zuZ if3 rfl) ?_
    refine ph_y (zuZ if9 rfl) ?_
    refine ph_y (zab zmb rfl) ?_
    refine ph_y (zah 0 tf3 rfl rfl rfl) ?_
    refine ph_y (zuZ if3 rfl) ?_
    refine zmr (zaD rfl (zDT (S.getD (i).toNat default).s (S.getD (i).toNat default).a (S.getD (i).toNat default).cap) zCc rfl) ?_
    refine ph_y (fun b101=>zaJ en70 rfl (fun w hw=>zDI _ _ (S.getD (i).toNat default).s _ _ w (zam zCc (hw.has (p:=0) rfl)) hf hh12 (Rd.has (Has.rd (hsh _ (za0 (by omega)))) hw) (Rd.has (Has.rd hp10) hw))) ?_
    refine ph_y (zBK rfl rfl (by simp only [zBL]; omega)) ?_
    refine ph_y (fun b101=>zad rfl) ?_
    intro b101
    refine zag (zae (T':=[(1,_),(2,_),(3,_),(5,_),(18,_),(19,_),(20,_)]) ⟨rfl,rfl,rfl,rfl,rfl,rfl,rfl,trivial⟩ ?_)
    refine zae (T':=[(1,_),(2,_),(3,_),(5,.string (bs (shsT (S.take (i+1).toNat)))),(18,_),(19,_),(20,_)]) ⟨rfl,rfl,rfl,(by rw [zCN g0 hc15]; exact congrArg (fun b=>some (Value.string b)) (zDi _ (bs _))),rfl,rfl,rfl,trivial⟩ ?_
    refine zaa (gk_y rfl rfl (zaY rfl rfl (by omega) (by omega)) ?_)
    refine gM ?_
    refine zag (zae (T':=[(1,_),(2,_),(3,_),(5,_),(18,_),(19,_),(20,_)]) ⟨rfl,rfl,rfl,rfl,rfl,rfl,rfl,trivial⟩ ?_)
    refine zaK 0 rfl ?_
    refine zaK 0 rfl ?_
    exact za1 (i+1) ⟨rfl,rfl,rfl,rfl,rfl,rfl,rfl,trivial⟩ rfl ⟨by omega,by omega⟩ (by omega)
   ·have hc21:=of_decide_eq_false hc21
    have hka:S.take i.toNat=S:=List.take_of_length_le (by omega)
    refine zae (T':=[(1,_),(2,_),(3,_),(5,.string (bs (shsT S++wlsT (V.take (0:Int).toNat)))),(18,_),(19,_),(20,_),(21,_)]) ⟨rfl,rfl,rfl,(by rw [hka]; exact congrArg (fun l=>some (Value.string (bs l))) (List.append_nil _).symm),rfl,rfl,rfl,rfl,trivial⟩ ?_
    refine za8 rfl ?_
    refine zac (zac (zaa (gk_y rfl rfl (zab zd7 rfl) ?_)))
    refine gQ (zah 0 tf29 rfl rfl rfl) ?_
    refine gQ (zaV (Tryz.underlying29) rfl) ?_
    refine gM ?_
    refine zag (zae (T':=[(2,_),(3,_),(5,_),(106,_),(107,_),(108,_)]) ⟨rfl,rfl,rfl,rfl,rfl,rfl,trivial⟩ ?_)
    refine zas ?_
    refine zbf (X:=Int) (fun(j:Int)=>[(2,.string (⟨#[]⟩:ByteArray)),(3,.int .i64 0),(5,.string (bs (shsT S++wlsT (V.take j.toNat)))),(106,.slice b V.length bcap),(107,.int .i64 (V.length:Int)),(108,.int .i64 j)]) (fun(j:Int)=>[Box b1 [.slice a S.length cap,.slice b V.length bcap] 31]) (fun(j:Int)=>(0≤j∧j≤V.length)) (fun(j:Int)=>(V.length - j).toNat) 0 ⟨rfl,rfl,rfl,rfl,rfl,rfl,trivial⟩ rfl ?_ ?_
    ·exact⟨by omega,by omega⟩
    ·rintro j hI
     obtain⟨j0,j1⟩:=hI
     refine zac (zaa (gk_y rfl rfl (zbw rfl rfl) ?_))
     refine zag (zae (T':=[(2,_),(3,_),(5,_),(106,_),(107,_),(108,_),(109,_)]) ⟨rfl,rfl,rfl,rfl,rfl,rfl,rfl,trivial⟩ ?_)
     refine zac (zap rfl (fun hc109=>?_) (fun hc109=>?_))
     ·have hc135:=of_decide_eq_true hc109
      have hwz:=hgW _ (za0 (l:=V) (i:=j.toNat) (by omega))
      have hvn:=zBQ hwz.name
      have hvs:=zBQ hwz.sheet
      obtain⟨n_len,m_len⟩:=hwz.len
      have z_len:=zBM hwz.len
      have hPv:=zDz hgW hlV j.toNat
      have hPs:=zCH hgS hlS S.length
      rw [List.take_length] at hPs
      have hwl:=zCn hwz.name hwz.sheet hwz.len
      rw [List.length_append,List.length_singleton] at hwl
      have hon:=hwz.num
      refine zaq (zac (zas ?_))
      refine zac (zaa (gk_y rfl rfl (zaE se29 rfl rfl (fun _ hw=>(Rd.has (Has.rd hlw) hw)) (by omega) (by omega)) ?_))
      refine gQ (zbv (vs:=[_,_,_,_]) tf94 rfl (fun _ hw=>(Rd.has (Has.rd hlw) hw)) (by omega) (by omega) rfl) ?_
      refine zaG rfl rfl (zaL tf94 (zs:=[_,_,_,_]) rfl) fun b9=>?_
      refine zaA 0 tf94 rfl rfl (vs:=[_,_,_,_]) rfl rfl rfl rfl rfl ?_
      refine zag (zae (T':=[(2,_),(3,_),(5,_),(9,_),(106,_),(107,_),(108,_)]) ⟨rfl,rfl,rfl,rfl,rfl,rfl,rfl,trivial⟩ ?_)
      refine zac (zaa (gM ?_))
      refine gQ (zuZ if9 rfl) ?_
      refine gQ (zab znh rfl) ?_
      refine gQ (zah 0 tf9 rfl rfl rfl) ?_
      refine gQ (zuZ if9 rfl) ?_
      refine gQ (zab zni rfl) ?_
      refine gQ (zah 0 tf9 rfl rfl rfl) ?_
      refine gQ (zuZ if9 rfl) ?_
      refine gQ (zab zgo rfl) ?_
      refine gQ (zah 0 tf3 rfl rfl rfl) ?_
      refine gQ (zuZ if3 rfl) ?_
      refine zaG rfl rfl (zaD rfl (zD6 (V.getD (j).toNat default).s) zCc rfl) fun b123=>?_
      refine gQ (zaJ en70 rfl (fun w hw=>zD0 _ _ (V.getD (j).toNat default).s w (zam zCc (hw.has (p:=0) rfl)) hwz (Rd.has (Has.rd hp10) hw))) ?_
      refine gQ (zBK rfl rfl (by simp only [zBL,List.length_append,List.length_cons,List.length_nil]; omega)) ?_
      refine gA ?_
      refine zag (zae (T':=[(2,_),(3,_),(5,_),(9,_),(106,_),(107,_),(108,_)]) ⟨rfl,rfl,rfl,rfl,rfl,rfl,rfl,trivial⟩ ?_)
      refine zae (T':=[(2,_),(3,_),(5,.string (bs ((shsT S++wlsT (V.take j.toNat))++(zBX (V.getD (j).toNat default).s++[10])++((V.getD (j).toNat default).s.opens.take (0:Int).toNat).flatMap zBR))),(9,_),(106,_),(107,_),(108,_)]) ⟨rfl,rfl,(by refine congrArg (fun b=>some (Value.string b)) (zBS ?_); simp []),rfl,rfl,rfl,rfl,trivial⟩ ?_
      refine zac (zaa (gk_y rfl rfl (zab zhe rfl) ?_))
      refine gQ (zah 1 tf92 rfl rfl rfl) ?_
      refine gQ (zaV (Tryz.underlying92) rfl) ?_
      refine gM ?_
      refine zag (zae (T':=[(2,_),(3,_),(5,_),(106,_),(107,_),(108,_),(127,_),(128,_),(129,_)]) ⟨rfl,rfl,rfl,rfl,rfl,rfl,rfl,rfl,rfl,trivial⟩ ?_)
      refine zas ?_
      refine zbf (X:=Int) (fun(k:Int)=>[(2,.string (⟨#[]⟩:ByteArray)),(3,.int .i64 0),(5,.string (bs ((shsT S++wlsT (V.take j.toNat))++(zBX (V.getD (j).toNat default).s++[10])++(((V.getD (j).toNat default).s.opens.take k.toNat).flatMap zBR)))),(106,.slice b V.length bcap),(107,.int .i64 (V.length:Int)),(108,.int .i64 j),(127,.slice (V.getD (j).toNat default).a (V.getD (j).toNat default).s.opens.length (V.getD (j).toNat default).cap),(128,.int .i64 ((V.getD (j).toNat default).s.opens.length:Int)),(129,.int .i64 k)]) (fun(k:Int)=>[Row (some ⟨b123,0,none⟩) 1 4 20 encA (zB5 (V.getD (j).toNat default).s),Box b9 [.string (V.getD (j).toNat default).s.name,.string (V.getD (j).toNat default).s.sheet,.int .i64 ((V.getD (j).toNat default).s.length),.slice (V.getD (j).toNat default).a (V.getD (j).toNat default).s.opens.length (V.getD (j).toNat default).cap] 94,Box b1 [.slice a S.length cap,.slice b V.length bcap] 31]) (fun(k:Int)=>(0≤k∧k≤(V.getD (j).toNat default).s.opens.length)) (fun(k:Int)=>((V.getD (j).toNat default).s.opens.length - k).toNat) 0 ⟨rfl,rfl,rfl,rfl,rfl,rfl,rfl,rfl,rfl,trivial⟩ rfl ?_ ?_
      ·exact⟨by omega,by omega⟩
      ·rintro k hI
       obtain⟨k0,k1⟩:=hI
       have hOT:=zDt hwz k.toNat
       refine zac (zaa (gk_y rfl rfl (zbw rfl rfl) ?_))
       refine zag (zae (T':=[(2,_),(3,_),(5,_),(106,_),(107,_),(108,_),(127,_),(128,_),(129,_),(130,_)]) ⟨rfl,rfl,rfl,rfl,rfl,rfl,rfl,rfl,rfl,rfl,trivial⟩ ?_)
       refine zac (zap rfl (fun hc130=>?_) (fun hc130=>?_))
       ·have hc161:=of_decide_eq_true hc130
        have hoz:=hwz.ops _ (za0 (l:=(V.getD (j).toNat default).s.opens) (i:=k.toNat) (by omega))
        have hok:=hoz.k
        have hot:=zCk hoz.a hoz.w hoz.f hoz.h
        refine zaq (zac (zas ?_))
        refine zac (zaa (gk_y rfl rfl (zaE se92 rfl rfl (fun _ hw=>(Rd.has (Has.rd (hwo _ (za0 (by omega)))) hw)) (by omega) (by omega)) ?_))
        refine gQ (zbv (vs:=[_,_,_,_,_]) tf98 rfl (fun _ hw=>(Rd.has (Has.rd (hwo _ (za0 (by omega)))) hw)) (by omega) (by omega) rfl) ?_
        refine zaG rfl rfl (zaL tf98 (zs:=[_,_,_,_,_]) rfl) fun b11=>?_
        refine zaA 0 tf98 rfl rfl (vs:=[_,_,_,_,_]) rfl rfl rfl rfl rfl ?_
        refine zag (zae (T':=[(2,_),(3,_),(5,_),(11,_),(106,_),(107,_),(108,_),(127,_),(128,_),(129,_)]) ⟨rfl,rfl,rfl,rfl,rfl,rfl,rfl,rfl,rfl,rfl,trivial⟩ ?_)
        refine zbb 23 (fun _=>mixed) (by kernel_rfl) ?_
        refine ph_y (zaf rfl) ?_
        refine ph_y (zuZ if9 rfl) ?_
        refine ph_y (zab zpG rfl) ?_
        refine ph_y (zah 0 tf5 rfl rfl rfl) ?_
        refine ph_y (zCS zEf rfl rfl (by omega) (by omega)) ?_
        refine ph_y (zcE tf9 rfl (fun _ hw=>(Rd.has (Has.rd hgo) hw)) (by omega) (by omega) rfl) ?_
        refine ph_y (zuZ if9 rfl) ?_
        refine ph_y (zab zhf rfl) ?_
        refine ph_y (zah 0 tf3 rfl rfl rfl) ?_
        refine ph_y (zuZ if3 rfl) ?_
        refine ph_y (zab zji rfl) ?_
        refine ph_y (zah 0 tf3 rfl rfl rfl) ?_
        refine ph_y (zuZ if3 rfl) ?_
        refine ph_y (zab zfe rfl) ?_
        refine ph_y (zah 0 tf3 rfl rfl rfl) ?_
        refine ph_y (zuZ if3 rfl) ?_
        refine ph_y (zab zhg rfl) ?_
        refine ph_y (zah 0 tf3 rfl rfl rfl) ?_
        refine ph_y (zuZ if3 rfl) ?_
        refine zmr (zaD rfl (zD5 ((V.getD (j).toNat default).s.opens.getD (k).toNat default)) zCc rfl) ?_
        refine ph_y (fun b152=>zaJ en70 rfl (fun w hw=>zDZ _ _ ((V.getD (j).toNat default).s.opens.getD (k).toNat default) w (zam zCc (hw.has (p:=0) rfl)) hoz (Rd.has (Has.rd hp10) hw))) ?_
        refine ph_y (zBK rfl rfl (by simp only [zBL,List.length_append,List.length_cons,List.length_nil]; omega)) ?_
        refine ph_y (fun b152=>zad rfl) ?_
        intro b152
        refine zag (zae (T':=[(2,_),(3,_),(5,_),(106,_),(107,_),(108,_),(127,_),(128,_),(129,_)]) ⟨rfl,rfl,rfl,rfl,rfl,rfl,rfl,rfl,rfl,trivial⟩ ?_)
        refine zae (T':=[(2,_),(3,_),(5,.string (bs ((shsT S++wlsT (V.take j.toNat))++(zBX (V.getD (j).toNat default).s++[10])++((V.getD (j).toNat default).s.opens.take (k+1).toNat).flatMap zBR))),(106,_),(107,_),(108,_),(127,_),(128,_),(129,_)]) ⟨rfl,rfl,(by rw [zh6 k0 hc161]; refine congrArg (fun b=>some (Value.string b)) (zBS ?_); simp []),rfl,rfl,rfl,rfl,rfl,rfl,trivial⟩ ?_
        refine zaa (gk_y rfl rfl (zaY rfl rfl (by omega) (by omega)) ?_)
        refine gM ?_
        refine zag (zae (T':=[(2,_),(3,_),(5,_),(106,_),(107,_),(108,_),(127,_),(128,_),(129,_)]) ⟨rfl,rfl,rfl,rfl,rfl,rfl,rfl,rfl,rfl,trivial⟩ ?_)
        refine zaK 0 rfl ?_
        refine zaK 0 rfl ?_
        exact za1 (k+1) ⟨rfl,rfl,rfl,rfl,rfl,rfl,rfl,rfl,rfl,trivial⟩ rfl ⟨by omega,by omega⟩ (by omega)
       ·have hc130:=of_decide_eq_false hc130
        have hko:(V.getD (j).toNat default).s.opens.take k.toNat=(V.getD (j).toNat default).s.opens:=List.take_of_length_le (by omega)
        refine zae (T':=[(2,_),(3,_),(5,.string (bs (shsT S++wlsT (V.take (j+1).toNat)))),(106,_),(107,_),(108,_),(127,_),(128,_),(129,_),(130,_)]) ⟨rfl,rfl,(by rw [hko,zCQ j0 hc135]; refine congrArg (fun l=>some (Value.string (bs l))) ?_; simp [zCi]),rfl,rfl,rfl,rfl,rfl,rfl,rfl,trivial⟩ ?_
        refine za8 rfl ?_
        refine zaa (gk_y rfl rfl (zaY rfl rfl (by omega) (by omega)) ?_)
        refine gM ?_
        refine zag (zae (T':=[(2,_),(3,_),(5,_),(106,_),(107,_),(108,_)]) ⟨rfl,rfl,rfl,rfl,rfl,rfl,trivial⟩ ?_)
        refine zaK 0 rfl ?_
        refine zaK 0 rfl ?_
        exact za1 (j+1) ⟨rfl,rfl,rfl,rfl,rfl,rfl,trivial⟩ rfl ⟨by omega,by omega⟩ (by omega)
     ·have hc109:=of_decide_eq_false hc109
      have hkv:V.take j.toNat=V:=List.take_of_length_le (by omega)
      refine za8 rfl ?_
      refine zac (zaa (gM ?_))
      refine gA ?_
      refine gA ?_
      refine zag (zae (T':=[(2,_),(3,_)]) ⟨rfl,rfl,trivial⟩ ?_)
      refine zaw (zay (zc2 rfl (zau rfl) (zau rfl)) ?_)
      rw [hkv,show zCh S V=_ from if_pos hP,show zeW S V=0 from if_pos hP]
end Go.Proofs.YtdcfcfhmkfkgmaaGreatDoor