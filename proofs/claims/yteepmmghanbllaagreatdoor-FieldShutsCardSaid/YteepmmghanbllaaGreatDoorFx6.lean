/- What the proof of the root text leans on, part 6: the layer, plain facts and walks. No statement of the seat is proved in this text. -/
import Derived.Test.YteepmmghanbllaaGreatDoorFx5
set_option maxRecDepth 100000
set_option maxHeartbeats 32000000
namespace Go.Proofs.YteepmmghanbllaaGreatDoor
open Go.K Go.Stn Go.Pln Go.Fld Go.RowKit
theorem tf38:TF Tryz.prog 38 false 1 (C none 0 0):=tK
theorem tf40:TF Tryz.prog 40 true 2 (.agg #[C none 0 0,C none 0 0]):=tK
theorem tf64:TF Tryz.prog 64 true 6 (.agg #[O 0,O 0,.string ⟨#[]⟩,O 0,O 0,.bool false]):=tK
theorem zDk:TF Tryz.prog 123 true 2 (.agg #[.bool false,.bool false]):=tK
theorem zzV:TF Tryz.prog 125 false 1 (C none 0 0):=tK
theorem zGI:TF Tryz.prog 126 false 1 (C none 0 0):=tK
theorem zyD:TF Tryz.prog 144 true 5 (.agg #[O 0,O 0,O 0,O 0,O 0]):=tK
theorem zA0:TF Tryz.prog 148 true 10 (.agg #[O 0,O 0,O 0,O 0,O 0,O 0,O 0,O 0,O 0,O 0]):=tK
theorem zGJ:TF Tryz.prog 180 true 54 (.agg #[.string ⟨#[]⟩,.string ⟨#[]⟩,O 0,C none 0 0,.string ⟨#[]⟩,O 0,O 0,O 0,O 0,C none 0 0,O 0,O 0,O 0,O 0,O 0,O 0,O 0,.int .u8 0,O 0,O 0,O 0,O 0,O 0,O 0,.bool false,O 0,O 0,.string ⟨#[]⟩,.string ⟨#[]⟩,O 0,C none 0 0,.string ⟨#[]⟩,O 0,O 0,O 0,O 0,C none 0 0,O 0,O 0,O 0,O 0,O 0,O 0,O 0,.int .u8 0,O 0,O 0,O 0,O 0,O 0,O 0,.bool false,O 0,O 0]):=tK
theorem zHp:TF Tryz.prog 181 true 4 (.agg #[O 0,O 0,O 0,O 0]):=tK
theorem zBJ:FO Tryz.prog 40 0 0:=fK
theorem zz1:FO Tryz.prog 40 1 1:=fK
theorem zBK:FO Tryz.prog 64 0 0:=fK
theorem zCS:FO Tryz.prog 64 1 1:=fK
theorem zFs:FO Tryz.prog 64 2 2:=fK
theorem zDU:FO Tryz.prog 64 3 3:=fK
theorem zDV:FO Tryz.prog 64 4 4:=fK
theorem zFt:FO Tryz.prog 64 5 5:=fK
theorem zyG:FO Tryz.prog 128 1 2:=fK
theorem zCj:FO Tryz.prog 128 2 3:=fK
theorem se38:SE Tryz.prog 38 64 6:=⟨Tryz.underlying38,by kernel_rfl⟩
theorem zGS:AE Tryz.prog 123 4 2 1:=⟨Tryz.underlying123,by kernel_rfl⟩
theorem zEy:AE Tryz.prog 141 3 2 1:=⟨Tryz.underlying141,by kernel_rfl⟩
theorem zz9:AE Tryz.prog 148 144 2 5:=⟨Tryz.underlying148,by kernel_rfl⟩
theorem zEz:AE Tryz.prog 181 141 2 2:=⟨Tryz.underlying181,by kernel_rfl⟩
theorem zHu:AF Tryz.prog 125 148 10 80 [O 0,O 0,O 0,O 0,O 0,O 0,O 0,O 0,O 0,O 0]:=⟨Tryz.underlying125,by kernel_rfl,rfl⟩
theorem zHv:AF Tryz.prog 126 124 1 8 [.map none]:=⟨Tryz.underlying126,by kernel_rfl,rfl⟩
theorem zD2:MZ Tryz.prog 124 3 123 2 true (.agg #[.bool false,.bool false]):=⟨Tryz.underlying124,Tryz.underlying3,⟨by kernel_rfl,by kernel_rfl⟩⟩
theorem en50:En Tryz.prog 50:=eK Tryz.func50
theorem en74:En Tryz.prog 74:=eK Tryz.func74
theorem en76:En Tryz.prog 76:=eK Tryz.func76
theorem en77:En Tryz.prog 77:=eK Tryz.func77
theorem en78:En Tryz.prog 78:=eK Tryz.func78
theorem zDv (x0a:yO) (x0n x0c:Nat) (x1a:yO) (x1n x1c:Nat) (w:World):(Instr.build 128 #[(0,.agg #[C x0a x0n x0c,C x1a x1n x1c])]).run Tryz.prog w=.ok (.agg #[C x0a x0n x0c,C x1a x1n x1c,C none 0 0,C none 0 0]) w:=by kernel_rfl
theorem zAB (x0 x1:Int) (w:World):(Instr.build 141 #[(0,O x0),(1,O x1)]).run Tryz.prog w=.ok (.agg #[O x0,O x1]) w:=by kernel_rfl
theorem zyZ (x0 x1 x2 x3 x4:Int) (w:World):(Instr.build 144 #[(0,O x0),(1,O x1),(2,O x2),(3,O x3),(4,O x4)]).run Tryz.prog w=.ok (.agg #[O x0,O x1,O x2,O x3,O x4]) w:=by kernel_rfl
theorem zyt (x0 x1:ByteArray) (x2:Int) (x3a:yO) (x3n x3c:Nat) (x4:ByteArray) (x5 x6 x7 x8:Int) (x9a:yO) (x9n x9c:Nat) (x10 x11 x12 x13 x14 x15 x16 x17 x18 x19 x20 x21 x22 x23:Int) (x24:Bool) (x25 x26:Int) (w:World):(Instr.build 179 #[(0,.agg #[.string x0,.string x1,O x2,C x3a x3n x3c]),(1,.agg #[.string x4,O x5,O x6,O x7,O x8,C x9a x9n x9c,O x10,O x11,O x12,O x13,O x14,O x15,O x16,.int .u8 x17,O x18,O x19,O x20,O x21,O x22,O x23]),(2,.bool x24),(3,O x25),(4,O x26)]).run Tryz.prog w=.ok (.agg #[.string x0,.string x1,O x2,C x3a x3n x3c,.string x4,O x5,O x6,O x7,O x8,C x9a x9n x9c,O x10,O x11,O x12,O x13,O x14,O x15,O x16,.int .u8 x17,O x18,O x19,O x20,O x21,O x22,O x23,.bool x24,O x25,O x26]) w:=by kernel_rfl
theorem zys (x0 x1:ByteArray) (x2:Int) (x3a:yO) (x3n x3c:Nat) (x4:ByteArray) (x5 x6 x7 x8:Int) (x9a:yO) (x9n x9c:Nat) (x10 x11 x12 x13 x14 x15 x16 x17 x18 x19 x20 x21 x22 x23:Int) (x24:Bool) (x25 x26:Int) (x27 x28:ByteArray) (x29:Int) (x30a:yO) (x30n x30c:Nat) (x31:ByteArray) (x32 x33 x34 x35:Int) (x36a:yO) (x36n x36c:Nat) (x37 x38 x39 x40 x41 x42 x43 x44 x45 x46 x47 x48 x49 x50:Int) (x51:Bool) (x52 x53:Int) (w:World):(Instr.build 180 #[(0,.agg #[.string x0,.string x1,O x2,C x3a x3n x3c,.string x4,O x5,O x6,O x7,O x8,C x9a x9n x9c,O x10,O x11,O x12,O x13,O x14,O x15,O x16,.int .u8 x17,O x18,O x19,O x20,O x21,O x22,O x23,.bool x24,O x25,O x26]),(1,.agg #[.string x27,.string x28,O x29,C x30a x30n x30c,.string x31,O x32,O x33,O x34,O x35,C x36a x36n x36c,O x37,O x38,O x39,O x40,O x41,O x42,O x43,.int .u8 x44,O x45,O x46,O x47,O x48,O x49,O x50,.bool x51,O x52,O x53])]).run Tryz.prog w=.ok (.agg #[.string x0,.string x1,O x2,C x3a x3n x3c,.string x4,O x5,O x6,O x7,O x8,C x9a x9n x9c,O x10,O x11,O x12,O x13,O x14,O x15,O x16,.int .u8 x17,O x18,O x19,O x20,O x21,O x22,O x23,.bool x24,O x25,O x26,.string x27,.string x28,O x29,C x30a x30n x30c,.string x31,O x32,O x33,O x34,O x35,C x36a x36n x36c,O x37,O x38,O x39,O x40,O x41,O x42,O x43,.int .u8 x44,O x45,O x46,O x47,O x48,O x49,O x50,.bool x51,O x52,O x53]) w:=by kernel_rfl
theorem zBg (x0 x1 x2 x3:Int) (w:World):(Instr.build 181 #[(0,.agg #[O x0,O x1]),(1,.agg #[O x2,O x3])]).run Tryz.prog w=.ok (.agg #[O x0,O x1,O x2,O x3]) w:=by kernel_rfl
theorem zGl (x0 x1:ByteArray) (x2:Int) (x3a:yO) (x3n x3c:Nat) (x4:ByteArray) (x5 x6 x7 x8:Int) (x9a:yO) (x9n x9c:Nat) (x10 x11 x12 x13 x14 x15 x16 x17 x18 x19 x20 x21 x22 x23:Int) (x24:Bool) (x25 x26:Int) (x27 x28:ByteArray) (x29:Int) (x30a:yO) (x30n x30c:Nat) (x31:ByteArray) (x32 x33 x34 x35:Int) (x36a:yO) (x36n x36c:Nat) (x37 x38 x39 x40 x41 x42 x43 x44 x45 x46 x47 x48 x49 x50:Int) (x51:Bool) (x52 x53:Int) (w:World):(Instr.index 180 (.agg #[.string x0,.string x1,O x2,C x3a x3n x3c,.string x4,O x5,O x6,O x7,O x8,C x9a x9n x9c,O x10,O x11,O x12,O x13,O x14,O x15,O x16,.int .u8 x17,O x18,O x19,O x20,O x21,O x22,O x23,.bool x24,O x25,O x26,.string x27,.string x28,O x29,C x30a x30n x30c,.string x31,O x32,O x33,O x34,O x35,C x36a x36n x36c,O x37,O x38,O x39,O x40,O x41,O x42,O x43,.int .u8 x44,O x45,O x46,O x47,O x48,O x49,O x50,.bool x51,O x52,O x53]) (O 0)).run Tryz.prog w=.ok (.agg #[.string x0,.string x1,O x2,C x3a x3n x3c,.string x4,O x5,O x6,O x7,O x8,C x9a x9n x9c,O x10,O x11,O x12,O x13,O x14,O x15,O x16,.int .u8 x17,O x18,O x19,O x20,O x21,O x22,O x23,.bool x24,O x25,O x26]) w:=by kernel_rfl
theorem zGm (x0 x1:ByteArray) (x2:Int) (x3a:yO) (x3n x3c:Nat) (x4:ByteArray) (x5 x6 x7 x8:Int) (x9a:yO) (x9n x9c:Nat) (x10 x11 x12 x13 x14 x15 x16 x17 x18 x19 x20 x21 x22 x23:Int) (x24:Bool) (x25 x26:Int) (x27 x28:ByteArray) (x29:Int) (x30a:yO) (x30n x30c:Nat) (x31:ByteArray) (x32 x33 x34 x35:Int) (x36a:yO) (x36n x36c:Nat) (x37 x38 x39 x40 x41 x42 x43 x44 x45 x46 x47 x48 x49 x50:Int) (x51:Bool) (x52 x53:Int) (w:World):(Instr.index 180 (.agg #[.string x0,.string x1,O x2,C x3a x3n x3c,.string x4,O x5,O x6,O x7,O x8,C x9a x9n x9c,O x10,O x11,O x12,O x13,O x14,O x15,O x16,.int .u8 x17,O x18,O x19,O x20,O x21,O x22,O x23,.bool x24,O x25,O x26,.string x27,.string x28,O x29,C x30a x30n x30c,.string x31,O x32,O x33,O x34,O x35,C x36a x36n x36c,O x37,O x38,O x39,O x40,O x41,O x42,O x43,.int .u8 x44,O x45,O x46,O x47,O x48,O x49,O x50,.bool x51,O x52,O x53]) (O 1)).run Tryz.prog w=.ok (.agg #[.string x27,.string x28,O x29,C x30a x30n x30c,.string x31,O x32,O x33,O x34,O x35,C x36a x36n x36c,O x37,O x38,O x39,O x40,O x41,O x42,O x43,.int .u8 x44,O x45,O x46,O x47,O x48,O x49,O x50,.bool x51,O x52,O x53]) w:=by kernel_rfl
theorem zG5 (x0_0 x1_0 x2_0 x3_0 x4_0:Int) (w:World):(Instr.buildSlice 45 5 #[(0,O x0_0),(1,O x1_0),(2,O x2_0),(3,O x3_0),(4,O x4_0)]).run Tryz.prog w=.ok (C (some ⟨w.heap.size,0,none⟩) 5 5) (w.alloc (.cells (([x0_0,x1_0,x2_0,x3_0,x4_0]:List (Int)).flatMap D).toArray 3)):=by kernel_rfl
theorem zFP (x0_0 x0_1 x0_2 x0_3 x0_4 x0_5 x0_6 x0_7 x0_8 x0_9:Int) (w:World):(Instr.buildSlice 125 1 #[(0,.agg #[O x0_0,O x0_1,O x0_2,O x0_3,O x0_4,O x0_5,O x0_6,O x0_7,O x0_8,O x0_9])]).run Tryz.prog w=.ok (C (some ⟨w.heap.size,0,none⟩) 1 1) (w.alloc (.cells (([⟨⟨x0_0,x0_1,x0_2,x0_3,x0_4⟩,⟨x0_5,x0_6,x0_7,x0_8,x0_9⟩⟩]:List (Crg×Crg)).flatMap zyw).toArray 148)):=by kernel_rfl
theorem zFQ (x0:Nat) (w:World):(Instr.buildSlice 126 1 #[(0,.map (some x0))]).run Tryz.prog w=.ok (C (some ⟨w.heap.size,0,none⟩) 1 1) (w.alloc (.cells (([x0]:List (Nat)).flatMap zy6).toArray 124)):=by kernel_rfl
abbrev zEw (z:Nat×(Option Addr×Nat)×(Option Addr×Nat)×List (Nat×List (Bool×Bool))) (ca:Option Addr) (ccap:Nat) (cs:List ByteArray) (ba:Option Addr) (bcp:Nat) (bs:List Bdr) (W:List (Crg×Crg)) (F:List (List (Bool×Bool))):Res:=
 zDo (z.2.2.2.map (·.2)=F) (SepR [Box z.1 [C ca cs.length ccap,C ba bs.length bcp,C z.2.1.1 W.length z.2.1.2,C z.2.2.1.1 (z.2.2.2.map (·.1)).length z.2.2.1.2] 128,Row z.2.1.1 10 z.2.1.2 148 zyw W,Row z.2.2.1.1 1 z.2.2.1.2 124 zy6 (z.2.2.2.map (·.1)),Go.K.Rows rowM z.2.2.2])
def zBY (ok:Bool) (b:Nat):Value:=if ok=true then .tuple #[Z b,O 0] else .tuple #[.pointer none,O 2]
def zBX (ok:Bool) (R:Res):Res:=if ok=true then R else Emp
theorem zzA {S:List ShC} {V:List WlC} {cs:List ByteArray} {bs:List Bdr} {x:Anm} (h:(!decide (zeW S V=0))=true):zym S V cs bs x=false:=by
 have hP:zc4 S V=false:=by
  cases e:zc4 S V with
  | false=>rfl
  | true=>rw [show zeW S V=0 from if_pos e] at h;cases h
 exact zzd (by unfold zy1;rw [hP];rfl)
theorem zzB {S:List ShC} {V:List WlC} {cs:List ByteArray} {bs:List Bdr} {x:Anm} (h:(!inZ (cs.length:Int) 1 40)=true):zym S V cs bs x=false:=
 zzd (by unfold zy1;rw [show inZ (cs.length:Int) 1 40=false from by simpa using h];simp)
theorem zzC {S:List ShC} {V:List WlC} {cs:List ByteArray} {bs:List Bdr} {x:Anm} (h:decide (80<(bs.length:Int))=true):zym S V cs bs x=false:=
 zzd (by unfold zy1;rw [h];simp)
theorem zES {S:List ShC} {V:List WlC} {cs:List ByteArray} {bs:List Bdr} {x:Anm} (h:([x.wide,x.high,x.step,x.leap,x.reach].any zC8)=true):zym S V cs bs x=false:=
 zzd (by unfold zy1 zBE;rw [h];simp)
theorem zET {S:List ShC} {V:List WlC} {cs:List ByteArray} {bs:List Bdr} {x:Anm} (h1:(!decide (zeW S V=0))=false) (h2:(!inZ (cs.length:Int) 1 40)=false) (h3:decide (80<(bs.length:Int))=false) (h4:([x.wide,x.high,x.step,x.leap,x.reach].any zC8)=false):zy1 S V cs bs x=true:=by
 have hP:zc4 S V=true:=Classical.byContradiction λ e=>by rw [show zeW S V=2 from if_neg e] at h1;cases h1
 unfold zy1 zBE
 rw [hP,show inZ (cs.length:Int) 1 40=true from by simpa using h2,h3,h4];rfl
theorem zGt {a b:Bool} (h:(!a||b)=true):(a&&!b)=false:=by cases a <;> cases b <;> first|rfl|cases h
theorem zGu {a b:Bool} (h:(!a||b)=false):(a&&!b)=true:=by cases a <;> cases b <;> first|rfl|cases h
theorem zHR {a b c d e f:Bool} (h:(((((!a||!b)||!c)||d)||!e)||!f)=true):(a&&b&&c&&!d&&e&&f)=false:=by cases a <;> cases b <;> cases c <;> cases d <;> cases e <;> cases f <;> first|rfl|cases h
theorem zHS {a b c d e f:Bool} (h:(((((!a||!b)||!c)||d)||!e)||!f)=false):(a&&b&&c&&!d&&e&&f)=true:=by cases a <;> cases b <;> cases c <;> cases d <;> cases e <;> cases f <;> first|rfl|cases h
theorem zCr {S:List ShC} {V:List WlC} {x:Anm} {b:Bdr} {n:Nat} (h:n<(zyu S V x b).length):(zyu S V x b).getD n (false,false)=zBN S V x b ((zaN S V b.wall).s.opens.getD n default):=by
 unfold zyu at h ⊢
 rw [lM] at h
 rw [gE,gE,List.getElem?_map,eG h];rfl
theorem zEs {S:List ShC} {V:List WlC} {bs:List Bdr} {x:Anm} {i:Int} (h:0≤i):((List.range (i+1).toNat).map λ(i:Nat)=>wayB S V x i (bs.getD i default))=((List.range i.toNat).map λ(i:Nat)=>wayB S V x i (bs.getD i default))++[wayB S V x i (bs.getD i.toNat default)]:=by
 rw [show(i+1).toNat=i.toNat+1 from by omega,List.range_succ,List.map_append,List.map_singleton,tN h]
theorem zDd {S:List ShC} {V:List WlC} {bs:List Bdr} {x:Anm} {i:Int} (h:0≤i):((List.range (i+1).toNat).map λ(i:Nat)=>zyu S V x (bs.getD i default))=((List.range i.toNat).map λ(i:Nat)=>zyu S V x (bs.getD i default))++[zyu S V x (bs.getD i.toNat default)]:=by
 rw [show(i+1).toNat=i.toNat+1 from by omega,List.range_succ,List.map_append,List.map_singleton]
abbrev yaj (w:World) (ba:Option Addr) (bs:List Bdr):=Has w (zaW ba 6 zyr bs)
abbrev yai (w:World) (ca:Option Addr) (cs:List ByteArray):=Has w (zaW ca 1 encS cs)
abbrev zzz4 (a:Option Addr) (S:List ByteArray) (c:Nat) (b:Option Addr) (V:List Bdr) (d:Nat):Value:=.agg #[.slice a S.length c,.slice b V.length d]
abbrev zzz6 (a:Option Addr) (S:List ByteArray) (c:Nat) (b:Option Addr) (V:List Bdr) (d:Nat):List Value:=[.slice a S.length c,.slice b V.length d]
theorem zC3 (a:yO) (cap:Nat) (S:List ShC) (b:yO) (bcap:Nat) (V:List WlC) (ca:yO) (ccap:Nat) (cs:List ByteArray) (ba:yO) (bcp:Nat) (bs:List Bdr) (x:Anm) (w:World) (hl:yag w a S) (hs:zaP S.length) (hcS:S.length≤cap) (hlw:yah w b V) (hsw:zaP V.length) (hsh:yab S w) (hss:yac S) (hwo:yaa V w) (hsv:yae V) (hcp:yad V) (hkn:yaf V) (hc:yai w ca cs) (hcs:zaP cs.length) (hcap:cs.length≤ccap) (hbd:yaj w ba bs) (hbs:zaP bs.length) :
  Calls Tryz.prog 49 #[zzz3 a S cap b V bcap,zzz4 ca cs ccap ba bs bcp,zzz1 x] w (zcU (λ z:Nat×(Option Addr×Nat)×(Option Addr×Nat)×List (Nat×List (Bool×Bool))=>zBY (zym S V cs bs x) z.1) (λ z=>zBX (zym S V cs bs x) (zEw z ca ccap cs ba bcp bs (zyj S V bs x) (zzS S V bs x))) w):=by
 refine zan (vs:=[_,_,_]) Tryz.func49 I I (bL I) (gS (zaG I I (za3 (vs:=[_,_]) I I) λ b3=>(zaG I I (za3 (vs:=[_,_]) I I) λ b4=>(zaG I I (za3 (vs:=[_,_,_,_,_]) I I) λ b5=>(gA I (gA I (gN [3,4,5,6,7] I (gS (gA I (gN [3,4,5,6,7,8] I (zac (gS (gQ (zat 2 tf37 I I (vs:=[_,_]) I I) (gQ (zaJ en75 I (λ w hw=>ztt _ _ S _ _ V w (rH hl hw) hs hcS (rH hlw hw) hsw (λ z hz=>(rH (hsh z hz) hw)) hss (λ z hz=>(rH (hwo z hz) hw)) hsv hcp hkn)) (gQ (zcr I I) (gM I (zai I I I I (λ hg32=>?_) (λ hg32=>?_))))))))))))))))))
 ·replace hg32:_=false:=hg32
  try rw [hg32]
  refine gQ (zab zBJ I) (gT I I I (gQ (zah 1 tf26 I I I) (gT I I I (gQ (zaV (Tryz.underlying26) I) (gT I I I (gQ (zaJ en58 I (λ w hw=>zyR _ _ _ w)) (gT I I I (gQ (zbR I) (gQ (za5 I I I) (gM I (zai I I I I (λ hg39=>?_) (λ hg39=>?_))))))))))))
  ·replace hg39:_=false:=hg39
   try rw [hg39]
   refine gQ (zab zz1 I) (gT I I I (gQ (zah 1 tf38 I I I) (gT I I I (gQ (zaV (Tryz.underlying38) I) (gT I I I (gQ (zc6 I I) (gQ (za5 I I I) (gM I (zai I I I I (λ hg45=>?_) (λ hg45=>?_))))))))))
   ·replace hg45:_=false:=hg45
    try rw [hg45]
    refine gQ (zab znb I) (gT I I I (gQ (zah 0 tf3 I I I) (gT I I I (gQ (zab znc I) (gT I I I (gQ (zah 0 tf3 I I I) (gT I I I (gQ (zab zpv I) (gT I I I (gQ (zah 0 tf3 I I I) (gT I I I (gQ (zab zep I) (gT I I I (gQ (zah 0 tf3 I I I) (gT I I I (gQ (zab znd I) (gT I I I (gQ (zah 0 tf3 I I I) (gT I I I (zaG I I (zaD I (zG5 _ _ _ _ _) Go.Stn.encI_ok I) λ b56=>(gT I I I (gM I (gT I I I (gQ (zaJ en71 I (λ w hw=>zhP _ _ ([x.wide,x.high,x.step,x.leap,x.reach]) zC8 _ [] [] w (zam Go.Stn.encI_ok (hw.has (p:=0) I)) (by simp [zaP]) (λ _=>True) (λ _ _=>trivial) en74 (λ z w _=>zFJ z w))) (gQ (za5 I I I) (gN [3,4,5,6,7,59] I (zap I (λ hc59=>?_) (λ hc59=>?_))))))))))))))))))))))))))))
    ·have hno0:zym S V cs bs x=false:=zES hc59
     refine gS (gA I (gA I (gN [3,4,5,6,7] I (zaw ?_))))
     have hno:zym S V cs bs x=false:=by first|exact hno0|exact zzA hg32|exact zzB hg39|exact zzC hg45
     refine zyS ?_
     exact zbd (0,(none,0),(none,0),[]) 0 (zc2 I (zau I) (zau I)) (by rw [zBY,if_neg (by rw [hno];exact fT)]) (by rw [zBX,if_neg (by rw [hno];exact fT)];rfl)
    ·have hhead:zy1 S V cs bs x=true:=zET hg32 hg39 hg45 hc59
     refine zaq (zac (gS (gQ (zab zBJ I) (gQ (zah 2 tf26 I I I) (gQ (zaV (Tryz.underlying26) I) (gM I (gN [3,4,5,6,7,61,62,63] I (zas (zbf (X:=Int) (λ(i:Int)=>[(3,Z b3),(4,Z b4),(5,Z b5),(6,.pointer none),(7,O 0),(61,C ca cs.length ccap),(62,O (cs.length:Int)),(63,O i)]) (λ(i:Int)=>[Row (some ⟨b56,0,none⟩) 1 5 3 D [x.wide,x.high,x.step,x.leap,x.reach],Box b5 (zzz2 x) 41,Box b4 (zzz6 ca cs ccap ba bs bcp) 40,Box b3 (zzz5 a S cap b V bcap) 37]) (λ(i:Int)=>(0≤i∧i≤cs.length∧∀ j:Nat,(j:Int)<i→zy0 cs j=true)) (λ(i:Int)=>(cs.length - i).toNat) 0 (sB I) I ?_ ?_)))))))))
     ·exact⟨by omega,by omega,λ j hj=>by omega⟩
     ·rintro i hI
      obtain⟨g0,g1,g2⟩:=hI
      refine gS (gQ (zbw I I) (gN [3,4,5,6,7,61,62,63,64] I (zac (zap I (λ hc64=>?_) (λ hc64=>?_)))))
      ·have hc64:=oT hc64
       refine zaq (zac (zas (gS (gM I (gQ (zaE se26 I I (λ _=>rH hc)) (gQ (zcE tf9 I (λ _=>rH hc) (by omega) (by omega) I) (gA I (gA I (gN [3,4,5,6,7,9,10,61,62,63] I (zac (gZ 11 (ph_y (zaf I) (ph_y (zaJ en76 I (λ w hw=>zEN _ w)) (ph_y (zbR I) (ph_y (zaf I) (zaz I I (λ jj=>by(try rw [jj]);exact zab zBJ I) (zaz I I (λ jj=>by(try rw [jj]);exact zah 2 tf26 I I I) (zaz I I (λ jj=>by(try rw [jj]);exact zaf I) (zaz I I (λ jj=>by(try rw [jj]);exact zg8 se26 I I (by omega) (by omega) hcap) (zaz I I (λ jj=>by(try rw [jj]);exact zaf I) (zaz I I (λ jj=>by(try rw [jj]);exact zaJ (v:=.bool (hasS (cs.take i.toNat) (cs.getD i.toNat default))) en77 I (λ w hw=>zB8 _ _ (cs.take i.toNat) (cs.getD i.toNat default) w (zje (rH hc hw) (by omega) (by omega)) (zDg hcs))) (ph_y (zaR I I I) (gN [3,4,5,6,7,61,62,63,78] I (zap I (λ hc78=>?_) (λ hc78=>?_)))))))))))))))))))))))))
       ·have hno0:zym S V cs bs x=false:=zAf (i:=i.toNat) (by omega) (zGt hc78)
        refine gS (gA I (gA I (gN [3,4,5,6,7,61,62,63] I (zaw ?_))))
        have hno:zym S V cs bs x=false:=by first|exact hno0|exact zzA hg32|exact zzB hg39|exact zzC hg45
        refine zyS ?_
        exact zbd (0,(none,0),(none,0),[]) 0 (zc2 I (zau I) (zau I)) (by rw [zBY,if_neg (by rw [hno];exact fT)]) (by rw [zBX,if_neg (by rw [hno];exact fT)];rfl)
       ·have hcell:zy0 cs i.toNat=true:=zGu hc78
        refine zaq (zaa (gQ (zaY I I) (gM I (gN [3,4,5,6,7,61,62,63] I ?_))))
        exact za1 (i+1) (sB I) I ⟨by omega,by omega,λ j hj=>if h:(j:Int)<i then g2 j h else(by rw [show j=i.toNat from by omega];exact hcell)⟩ (by omega)
      ·have hc64:=oD hc64
       have hcl:∀ j:Nat,j<cs.length→zy0 cs j=true:=λ j hj=>g2 j (by omega)
       refine za8 I (gS (gQ (zat 2 tf40 I I (vs:=[_,_]) I I) (gQ (zaI I (zDv _ _ _ _ _ _)) (zaG I I (za3 (vs:=[_,_,_,_]) I I) λ b82=>(gA I (gN [3,4,5,6,7,11] I (zjj rowM (zbB 124 zy6 1 (zbB 148 zyw 10 (zac (gS (gQ (zab zz1 I) (gQ (zah 6 tf38 I I I) (gQ (zaV (Tryz.underlying38) I) (gM I (gN [3,4,5,6,7,11,84,85,86] I (zas ?_)))))))))))))))))
       refine zbf (X:=Int×(Option Addr×Nat)×(Option Addr×Nat)×List (Nat×List (Bool×Bool))) (λ⟨i,⟨wa,wc⟩,⟨fa,fc⟩,F⟩=>[(3,Z b3),(4,Z b4),(5,Z b5),(6,.pointer none),(7,O 0),(11,Z b82),(84,C ba bs.length bcp),(85,O (bs.length:Int)),(86,O i)]) (λ⟨i,⟨wa,wc⟩,⟨fa,fc⟩,F⟩=>[Row wa 10 wc 148 zyw ((List.range i.toNat).map λ(i:Nat)=>wayB S V x i (bs.getD i default)),Row fa 1 fc 124 zy6 (F.map (·.1)),Go.K.Rows rowM F,Box b82 [C ca cs.length ccap,C ba bs.length bcp,C wa ((List.range i.toNat).map λ(i:Nat)=>wayB S V x i (bs.getD i default)).length wc,C fa (F.map (·.1)).length fc] 128,Row (some ⟨b56,0,none⟩) 1 5 3 D [x.wide,x.high,x.step,x.leap,x.reach],Box b5 (zzz2 x) 41,Box b4 (zzz6 ca cs ccap ba bs bcp) 40,Box b3 (zzz5 a S cap b V bcap) 37]) (λ⟨i,⟨wa,wc⟩,⟨fa,fc⟩,F⟩=>(0≤i∧i≤bs.length∧F.map (·.2)=((List.range i.toNat).map λ(i:Nat)=>zyu S V x (bs.getD i default))∧∀ j:Nat,(j:Int)<i→zzp S V cs.length (bs.getD j default)=true)) (λ⟨i,⟨wa,wc⟩,⟨fa,fc⟩,F⟩=>(bs.length - i).toNat) (0,(none,0),(none,0),[]) (sB I) I ?_ ?_
       ·exact⟨by omega,by omega,rfl,λ j hj=>by omega⟩
       ·rintro ⟨i,⟨wa,wc⟩,⟨fa,fc⟩,F⟩ hI
        obtain⟨g0,g1,g2,g3⟩:=hI
        refine gS (gQ (zbw I I) (gN [3,4,5,6,7,11,84,85,86,87] I (zac (zap I (λ hc87=>?_) (λ hc87=>?_)))))
        ·have hc87:=oT hc87
         obtain⟨hsvw,hsss⟩:=zxT (n:=(bs.getD i.toNat default).wall) hsv hss
         refine zaq (zac (zas (gS (gM I (gQ (zaE se38 I I (λ _=>rH hbd)) (gQ (zbv (vs:=[_,_,_,_,_,_]) tf64 I (λ _=>rH hbd) (by omega) (by omega) I) (zaG I I (zaL tf64 (zs:=[_,_,_,_,_,_]) I) λ b13=>(gA I (zaA 0 tf64 I I (vs:=[_,_,_,_,_,_]) I I I I I (gN [3,4,5,6,7,11,12,13,84,85,86] I (gS (gQ (zat 8 tf37 I I (vs:=[_,_]) I I) (gQ (zab zFs I) (gQ (zah 0 tf9 I I I) (zaG I I (zbm en50 I (λ w hw=>zyh _ _ S _ _ V (bs.getD i.toNat default).wall w (rH hl hw) hs hcS (rH hlw hw) hsw (λ z hz=>(rH (hsh z hz) hw)) hss (λ z hz=>(rH (hwo z hz) hw)) hsv hcp hkn)) λ p95=>zbP (gM I (gQ (zaB I I) (gQ (zaB I I) (gQ (zaB I I) (zaG I I (zaL zyz (zs:=[_,_,_,_]) I) λ b14=>(zaG I I (zaL zyq (zs:=[_,_,_,_,_,_,_,_,_,_,_,_,_,_,_,_,_,_,_,_]) I) λ b15=>(zaA 1 zyz I I (vs:=[_,_,_,_]) I I I I I (zbz 0 zyq I I (vs:=[_,_,_,_,_,_,_,_,_,_,_,_,_,_,_,_,_,_,_,_]) I I I I I (gA I (gN [3,4,5,6,7,11,12,13,14,15,16,84,85,86] I (gS (gQ (zab zBJ I) ?_)))))))))))))))))))))))))))
         refine gQ (zah 11 tf26 I I I) (gQ (zaV (Tryz.underlying26) I) (gQ (zfV I I) (gA I (gN [3,4,5,6,7,11,12,13,14,15,16,17,84,85,86] I (zac (zac (gZ 35 (ph_y (zaf I) (ph_y (zcr I I) (ph_y (zaf I) (zaz I I (λ jj=>by(try rw [jj]);exact zab zBK I) (zaz I I (λ jj=>by(try rw [jj]);exact zah 4 tf3 I I I) (zaz I I (λ jj=>by(try rw [jj]);exact zaf I) (zaz I I (λ jj=>by(try rw [jj]);exact zaJ (v:=.bool (inZ ((bs.getD i.toNat default).a) 0 ((cs.length:Int) - 1))) en58 I (λ w hw=>zyR _ _ _ w)) (zaz I I (λ jj=>by(try rw [jj]);exact zbR I) (ph_y (zaR I I I) (ph_y (zaf I) (zaz I I (λ jj=>by(try rw [jj]);exact zab zCS I) (zaz I I (λ jj=>by(try rw [jj]);exact zah 4 tf3 I I I) (zaz I I (λ jj=>by(try rw [jj]);exact zaf I) (zaz I I (λ jj=>by(try rw [jj]);exact zaJ (v:=.bool (inZ ((bs.getD i.toNat default).b) 0 ((cs.length:Int) - 1))) en58 I (λ w hw=>zyR _ _ _ w)) (zaz I I (λ jj=>by(try rw [jj]);exact zbR I) (ph_y (zaR I I I) (ph_y (zaf I) (zaz I I (λ jj=>by(try rw [jj]);exact zab zBK I) (zaz I I (λ jj=>by(try rw [jj]);exact zah 4 tf3 I I I) ?_))))))))))))))))))))))))))
         refine zaz I I (λ jj=>by(try rw [jj]);exact zab zCS I) (zaz I I (λ jj=>by(try rw [jj]);exact zah 4 tf3 I I I) (zaz I I (λ jj=>by(try rw [jj]);exact zbL I I) (ph_y (zaR I I I) (ph_y (zaf I) (zaz I I (λ jj=>by(try rw [jj]);exact zab zDU I) (zaz I I (λ jj=>by(try rw [jj]);exact zah 4 tf3 I I I) (zaz I I (λ jj=>by(try rw [jj]);exact zaJ (v:=.bool (inZ ((bs.getD i.toNat default).gA) (-3000) 3000)) en58 I (λ w hw=>zyR _ _ _ w)) (zaz I I (λ jj=>by(try rw [jj]);exact zbR I) (ph_y (zaR I I I) (ph_y (zaf I) (zaz I I (λ jj=>by(try rw [jj]);exact zab zDV I) (zaz I I (λ jj=>by(try rw [jj]);exact zah 4 tf3 I I I) (zaz I I (λ jj=>by(try rw [jj]);exact zaJ (v:=.bool (inZ ((bs.getD i.toNat default).gB) (-3000) 3000)) en58 I (λ w hw=>zyR _ _ _ w)) (zaz I I (λ jj=>by(try rw [jj]);exact zbR I) (ph_y (zaR I I I) (gN [3,4,5,6,7,11,12,13,14,15,84,85,86,137] I (zap I (λ hc137=>?_) (λ hc137=>?_))))))))))))))))))
         ·have hno0:zym S V cs bs x=false:=zCT (i:=i.toNat) (by omega) (zHR hc137)
          refine gS (gA I (gA I (gN [3,4,5,6,7,11,12,13,14,15,84,85,86] I (zaw ?_))))
          have hno:zym S V cs bs x=false:=by first|exact hno0|exact zzA hg32|exact zzB hg39|exact zzC hg45
          refine zyS ?_
          exact zbd (0,(none,0),(none,0),[]) 0 (zc2 I (zau I) (zau I)) (by rw [zBY,if_neg (by rw [hno];exact fT)]) (by rw [zBX,if_neg (by rw [hno];exact fT)];rfl)
         ·have hbrd:zzp S V cs.length (bs.getD i.toNat default)=true:=zHS hc137
          obtain⟨hG1,hG2⟩:=zBh hbrd
          have hfl:(zyu S V x (bs.getD i.toNat default)).length=(zaN S V (bs.getD i.toNat default).wall).s.opens.length:=lM ..
          have hon:=hG1.wf.num
          have hwl:((List.range i.toNat).map λ(i:Nat)=>wayB S V x i (bs.getD i default)).length=i.toNat:=by rw [lM,List.length_range]
          have hfm:(F.map (·.1)).length=i.toNat:=by rw [lM];have:=congrArg List.length g2;rw [lM,lM,List.length_range] at this;exact this
          refine zaq (gS (gQ (zat 1 zyz I I (vs:=[_,_,_,_]) I I) (gQ (zat 0 zyq I I (vs:=[_,_,_,_,_,_,_,_,_,_,_,_,_,_,_,_,_,_,_,_]) I I) (gQ (zab zFt I) (gQ (zah 4 tf4 I I I) (gQ (zab zDU I) (gQ (zah 4 tf3 I I I) (gQ (zab zDV I) (gQ (zah 4 tf3 I I I) (gQ (zaI I (zyt _ _ _ _ _ _ _ _ _ _ _ _ _ _ _ _ _ _ _ _ _ _ _ _ _ _ _ _ _ _ _)) (gQ (zat 1 zyz I I (vs:=[_,_,_,_]) I I) (gQ (zat 0 zyq I I (vs:=[_,_,_,_,_,_,_,_,_,_,_,_,_,_,_,_,_,_,_,_]) I I) (gQ (zab zFt I) (gQ (zah 4 tf4 I I I) (gQ (zab zDV I) (gQ (zah 4 tf3 I I I) (gQ (zab zDU I) (gQ (zah 4 tf3 I I I) (gQ (zaI I (zyt _ _ _ _ _ _ _ _ _ _ _ _ _ _ _ _ _ _ _ _ _ _ _ _ _ _ _ _ _ _ _)) (gQ (zaI I (zys _ _ _ _ _ _ _ _ _ _ _ _ _ _ _ _ _ _ _ _ _ _ _ _ _ _ _ _ _ _ _ _ _ _ _ _ _ _ _ _ _ _ _ _ _ _ _ _ _ _ _ _ _ _ _ _ _ _ _ _ _ _)) ?_))))))))))))))))))))
          refine zaG I I (zaL zGJ (zs:=[_,_,_,_,_,_,_,_,_,_,_,_,_,_,_,_,_,_,_,_,_,_,_,_,_,_,_,_,_,_,_,_,_,_,_,_,_,_,_,_,_,_,_,_,_,_,_,_,_,_,_,_,_,_]) I) λ b18=>(zbz 0 zGJ I I (vs:=[_,_,_,_,_,_,_,_,_,_,_,_,_,_,_,_,_,_,_,_,_,_,_,_,_,_,_,_,_,_,_,_,_,_,_,_,_,_,_,_,_,_,_,_,_,_,_,_,_,_,_,_,_,_]) I I I I I (gN [3,4,5,6,7,11,12,13,14,18,84,85,86] I (gS (gQ (zab zBK I) (gQ (zah 5 tf3 I I I) (gQ (zab zCS I) (gQ (zah 5 tf3 I I I) (gQ (zaI I (zAB _ _)) (gQ (zab zCS I) (gQ (zah 5 tf3 I I I) (gQ (zab zBK I) (gQ (zah 5 tf3 I I I) (gQ (zaI I (zAB _ _)) (gQ (zaI I (zBg _ _ _ _)) (zaG I I (zaL zHp (zs:=[_,_,_,_]) I) λ b19=>(zaA 0 zHp I I (vs:=[_,_,_,_]) I I I I I (gN [3,4,5,6,7,11,12,14,18,19,84,85,86] I (gS (zaG I I (zaL zA0 (zs:=[_,_,_,_,_,_,_,_,_,_]) I) λ b20=>(gN [3,4,5,6,7,11,12,14,18,19,20,84,85,86] I (gS (zaG I I (zCB) λ b168=>(gA I ?_)))))))))))))))))))))))
          refine gN [3,4,5,6,7,11,12,14,18,19,20,21,84,85,86] I (zac (gS (gQ (zat 3 zGJ I I (vs:=[_,_,_,_,_,_,_,_,_,_,_,_,_,_,_,_,_,_,_,_,_,_,_,_,_,_,_,_,_,_,_,_,_,_,_,_,_,_,_,_,_,_,_,_,_,_,_,_,_,_,_,_,_,_]) I I) (gM I (gN [3,4,5,6,7,11,12,14,19,20,21,84,85,86,169,170] I (zas ?_))))))
          refine zbf (X:=Int) (λ(k:Int)=>[(3,Z b3),(4,Z b4),(5,Z b5),(6,.pointer none),(7,O 0),(11,Z b82),(12,O i),(14,Z b14),(19,Z b19),(20,Z b20),(21,.map (some b168)),(84,C ba bs.length bcp),(85,O (bs.length:Int)),(86,O i),(169,qV ((zaN S V (bs.getD i.toNat default).wall).s) p95.1.1 p95.1.2 ((zar S V (bs.getD i.toNat default).wall).s) p95.2.1 p95.2.2 ((bs.getD i.toNat default).shut) ((bs.getD i.toNat default).gA) ((bs.getD i.toNat default).gB) ((zaN S V (bs.getD i.toNat default).wall).s) p95.1.1 p95.1.2 ((zar S V (bs.getD i.toNat default).wall).s) p95.2.1 p95.2.2 ((bs.getD i.toNat default).shut) ((bs.getD i.toNat default).gB) ((bs.getD i.toNat default).gA)),(170,O k)]) (λ(k:Int)=>[MapZ b168 (frK (zyu S V x (bs.getD i.toNat default)) k),Box b20 [O ((prK (wayB S V x i (bs.getD i.toNat default)) k).1.frm),O ((prK (wayB S V x i (bs.getD i.toNat default)) k).1.to),O ((prK (wayB S V x i (bs.getD i.toNat default)) k).1.brd),O ((prK (wayB S V x i (bs.getD i.toNat default)) k).1.way),O ((prK (wayB S V x i (bs.getD i.toNat default)) k).1.eff),O ((prK (wayB S V x i (bs.getD i.toNat default)) k).2.frm),O ((prK (wayB S V x i (bs.getD i.toNat default)) k).2.to),O ((prK (wayB S V x i (bs.getD i.toNat default)) k).2.brd),O ((prK (wayB S V x i (bs.getD i.toNat default)) k).2.way),O ((prK (wayB S V x i (bs.getD i.toNat default)) k).2.eff)] 148,Box b19 [O (bs.getD i.toNat default).a,O (bs.getD i.toNat default).b,O (bs.getD i.toNat default).b,O (bs.getD i.toNat default).a] 181,Box b18 [.string ((zaN S V (bs.getD i.toNat default).wall).s).name,.string ((zaN S V (bs.getD i.toNat default).wall).s).sheet,O ((zaN S V (bs.getD i.toNat default).wall).s).length,C p95.1.1 ((zaN S V (bs.getD i.toNat default).wall).s).opens.length p95.1.2,.string ((zar S V (bs.getD i.toNat default).wall).s).name,O ((zar S V (bs.getD i.toNat default).wall).s).base,O ((zar S V (bs.getD i.toNat default).wall).s).batter,O ((zar S V (bs.getD i.toNat default).wall).s).height,O ((zar S V (bs.getD i.toNat default).wall).s).skin,C p95.2.1 ((zar S V (bs.getD i.toNat default).wall).s).heights.length p95.2.2,O ((zar S V (bs.getD i.toNat default).wall).s).least,O ((zar S V (bs.getD i.toNat default).wall).s).lap,O ((zar S V (bs.getD i.toNat default).wall).s).run,O ((zar S V (bs.getD i.toNat default).wall).s).every,O ((zar S V (bs.getD i.toNat default).wall).s).at_,O ((zar S V (bs.getD i.toNat default).wall).s).footing,O ((zar S V (bs.getD i.toNat default).wall).s).spread,.int .u8 ((zar S V (bs.getD i.toNat default).wall).s).cope,O ((zar S V (bs.getD i.toNat default).wall).s).tall,O ((zar S V (bs.getD i.toNat default).wall).s).short,O ((zar S V (bs.getD i.toNat default).wall).s).thick,O ((zar S V (bs.getD i.toNat default).wall).s).low,O ((zar S V (bs.getD i.toNat default).wall).s).high,O ((zar S V (bs.getD i.toNat default).wall).s).rood,.bool (bs.getD i.toNat default).shut,O (bs.getD i.toNat default).gA,O (bs.getD i.toNat default).gB,.string ((zaN S V (bs.getD i.toNat default).wall).s).name,.string ((zaN S V (bs.getD i.toNat default).wall).s).sheet,O ((zaN S V (bs.getD i.toNat default).wall).s).length,C p95.1.1 ((zaN S V (bs.getD i.toNat default).wall).s).opens.length p95.1.2,.string ((zar S V (bs.getD i.toNat default).wall).s).name,O ((zar S V (bs.getD i.toNat default).wall).s).base,O ((zar S V (bs.getD i.toNat default).wall).s).batter,O ((zar S V (bs.getD i.toNat default).wall).s).height,O ((zar S V (bs.getD i.toNat default).wall).s).skin,C p95.2.1 ((zar S V (bs.getD i.toNat default).wall).s).heights.length p95.2.2,O ((zar S V (bs.getD i.toNat default).wall).s).least,O ((zar S V (bs.getD i.toNat default).wall).s).lap,O ((zar S V (bs.getD i.toNat default).wall).s).run,O ((zar S V (bs.getD i.toNat default).wall).s).every,O ((zar S V (bs.getD i.toNat default).wall).s).at_,O ((zar S V (bs.getD i.toNat default).wall).s).footing,O ((zar S V (bs.getD i.toNat default).wall).s).spread,.int .u8 ((zar S V (bs.getD i.toNat default).wall).s).cope,O ((zar S V (bs.getD i.toNat default).wall).s).tall,O ((zar S V (bs.getD i.toNat default).wall).s).short,O ((zar S V (bs.getD i.toNat default).wall).s).thick,O ((zar S V (bs.getD i.toNat default).wall).s).low,O ((zar S V (bs.getD i.toNat default).wall).s).high,O ((zar S V (bs.getD i.toNat default).wall).s).rood,.bool (bs.getD i.toNat default).shut,O (bs.getD i.toNat default).gB,O (bs.getD i.toNat default).gA] 180,Box b15 (sV ((zar S V (bs.getD i.toNat default).wall).s) p95.2.1 p95.2.2) 118,Box b14 (wV ((zaN S V (bs.getD i.toNat default).wall).s) p95.1.1 p95.1.2) 116,Row p95.1.1 5 p95.1.2 122 zba (zaN S V (bs.getD i.toNat default).wall).s.opens,Row p95.2.1 1 p95.2.2 3 D (zar S V (bs.getD i.toNat default).wall).s.heights,Box b13 [O (bs.getD i.toNat default).a,O (bs.getD i.toNat default).b,.string (bs.getD i.toNat default).wall,O (bs.getD i.toNat default).gA,O (bs.getD i.toNat default).gB,.bool (bs.getD i.toNat default).shut] 64,Row wa 10 wc 148 zyw ((List.range i.toNat).map λ(i:Nat)=>wayB S V x i (bs.getD i default)),Row fa 1 fc 124 zy6 (F.map (·.1)),Go.K.Rows rowM F,Box b82 [C ca cs.length ccap,C ba bs.length bcp,C wa ((List.range i.toNat).map λ(i:Nat)=>wayB S V x i (bs.getD i default)).length wc,C fa (F.map (·.1)).length fc] 128,Row (some ⟨b56,0,none⟩) 1 5 3 D [x.wide,x.high,x.step,x.leap,x.reach],Box b5 (zzz2 x) 41,Box b4 (zzz6 ca cs ccap ba bs bcp) 40,Box b3 (zzz5 a S cap b V bcap) 37]) (λ(k:Int)=>(0≤k∧k≤2)) (λ(k:Int)=>(2 - k).toNat) 0 (sB I) I ?_ ?_
          ·exact⟨by decide,by decide⟩
          ·rintro k hI
           obtain⟨k0,k1⟩:=hI
           refine gS (gQ (zbw I I) (gN [3,4,5,6,7,11,12,14,19,20,21,84,85,86,169,170,171] I (zac (zap I (λ hc171=>?_) (λ hc171=>?_)))))
           ·have hc171:=oT hc171
            rcases(show k=0∨k=1 by omega) with hk|hk
            ·refine zae (T':=[(3,_),(4,_),(5,_),(6,_),(7,_),(11,_),(12,_),(14,_),(19,_),(20,_),(21,_),(84,_),(85,_),(86,_),(169,_),(170,O 0),(171,_)]) ⟨I,I,I,I,I,I,I,I,I,I,I,I,I,I,I,(by show some (Value.int .i64 k)=_;rw [hk]),I,trivial⟩ (za2 (R':=Box b20 [O 0,O 0,O 0,O 0,O 0,O 0,O 0,O 0,O 0,O 0] 148) 1 I (λ B w hA=>by rw [hk,zHU] at hA;exact hA) (za2 (R':=MapZ b168 (frA (zyu S V x (bs.getD i.toNat default)) (0:Int).toNat)) 0 I (λ B w hA=>by rw [hk] at hA;rw [show(0:Int).toNat=0 from rfl,zHJ];exact hA) (zaq (zac (zas (gS (gM I (gQ (zzF I I (zGl _ _ _ _ _ _ _ _ _ _ _ _ _ _ _ _ _ _ _ _ _ _ _ _ _ _ _ _ _ _ _ _ _ _ _ _ _ _ _ _ _ _ _ _ _ _ _ _ _ _ _ _ _ _ _ _ _ _ _ _ _ _)) (zaG I I (zaL zAl (zs:=[_,_,_,_,_,_,_,_,_,_,_,_,_,_,_,_,_,_,_,_,_,_,_,_,_,_,_]) I) λ b23=>(gA I (zbz 0 zAl I I (vs:=[_,_,_,_,_,_,_,_,_,_,_,_,_,_,_,_,_,_,_,_,_,_,_,_,_,_,_]) I I I I I (gN [3,4,5,6,7,11,12,14,19,20,21,22,23,84,85,86,169,170] I (zac (zaa ?_))))))))))))))
             refine gQ (zat 0 zAl I I (vs:=[_,_,_,_,_,_,_,_,_,_,_,_,_,_,_,_,_,_,_,_,_,_,_,_,_,_,_]) I I) (gQ (zat 15 tf41 I I (vs:=[_,_,_,_,_]) I I) (gQ (zaJ en78 I (λ w hw=>zFo _ _ (zaN S V (bs.getD i.toNat default).wall).s _ _ (zar S V (bs.getD i.toNat default).wall).s (bs.getD i.toNat default).shut ((bs.getD i.toNat default).gA) ((bs.getD i.toNat default).gB) x w (zam Go.Stn.encI_ok (hw.has (p:=8) I)) hsss (zam zyn (hw.has (p:=7) I)) hG1)) (gM I (gQ (zaB I I) (gQ (zaB I I) (gA I (gA I (gN [3,4,5,6,7,11,12,14,19,20,21,22,23,24,25,84,85,86,169,170] I (zac (gZ 14 (ph_y (zaf I) (ph_y (zaf I) (ph_y (zyA 0 zEz I I I (by decide)) (ph_y (zyA 0 zEy I I I (by decide)) (ph_y (zah 3 tf3 I I I) (ph_y (zaf I) (ph_y (zyA 0 zEz I I I (by decide)) (ph_y (zyA 1 zEy I I I (by decide)) (ph_y (zah 3 tf3 I I I) (ph_y (zaf I) (ph_y (zaf I) (ph_y (zaf I) (ph_y (zaI I (zyZ _ _ _ _ _)) (ph_y (zyA 0 zz9 I I I (by decide)) (gK [3,4,5,6,7,11,12,14,19,20,21,22,23,84,85,86,169,170,192,193] I (zaA 2 zyD I I (vs:=[_,_,_,_,_]) I I I I I ?_))))))))))))))))))))))))))
             refine gN [3,4,5,6,7,11,12,14,19,20,21,22,23,84,85,86,169,170] I (gS (gQ (zab zyL I) (gQ (zah 6 zAi I I I) (gQ (zaV (Tryz.underlying114) I) (gM I (gN [3,4,5,6,7,11,12,14,19,20,21,22,23,84,85,86,169,170,195,196,197] I (zas ?_)))))))
             refine zbf (X:=Int) (λ(n:Int)=>[(3,Z b3),(4,Z b4),(5,Z b5),(6,.pointer none),(7,O 0),(11,Z b82),(12,O i),(14,Z b14),(19,Z b19),(20,Z b20),(21,.map (some b168)),(22,O 0),(23,Z b23),(84,C ba bs.length bcp),(85,O (bs.length:Int)),(86,O i),(169,qV ((zaN S V (bs.getD i.toNat default).wall).s) p95.1.1 p95.1.2 ((zar S V (bs.getD i.toNat default).wall).s) p95.2.1 p95.2.2 ((bs.getD i.toNat default).shut) ((bs.getD i.toNat default).gA) ((bs.getD i.toNat default).gB) ((zaN S V (bs.getD i.toNat default).wall).s) p95.1.1 p95.1.2 ((zar S V (bs.getD i.toNat default).wall).s) p95.2.1 p95.2.2 ((bs.getD i.toNat default).shut) ((bs.getD i.toNat default).gB) ((bs.getD i.toNat default).gA)),(170,O 0),(195,C p95.1.1 (zaN S V (bs.getD i.toNat default).wall).s.opens.length p95.1.2),(196,O ((zaN S V (bs.getD i.toNat default).wall).s.opens.length:Int)),(197,O n)]) (λ(n:Int)=>[Box b23 (lV ((zaN S V (bs.getD i.toNat default).wall).s) p95.1.1 p95.1.2 ((zar S V (bs.getD i.toNat default).wall).s) p95.2.1 p95.2.2 ((bs.getD i.toNat default).shut) ((bs.getD i.toNat default).gA) ((bs.getD i.toNat default).gB)) 179,MapZ b168 (frA (zyu S V x (bs.getD i.toNat default)) n.toNat),Box b20 [O (bs.getD i.toNat default).a,O (bs.getD i.toNat default).b,O i,O ((zzX (zar S V (bs.getD i.toNat default).wall).s (bs.getD i.toNat default).shut ((bs.getD i.toNat default).gA) ((bs.getD i.toNat default).gB) (zaN S V (bs.getD i.toNat default).wall).s.opens x).1),O ((zzX (zar S V (bs.getD i.toNat default).wall).s (bs.getD i.toNat default).shut ((bs.getD i.toNat default).gA) ((bs.getD i.toNat default).gB) (zaN S V (bs.getD i.toNat default).wall).s.opens x).2),O 0,O 0,O 0,O 0,O 0] 148,Box b19 [O (bs.getD i.toNat default).a,O (bs.getD i.toNat default).b,O (bs.getD i.toNat default).b,O (bs.getD i.toNat default).a] 181,Box b18 [.string ((zaN S V (bs.getD i.toNat default).wall).s).name,.string ((zaN S V (bs.getD i.toNat default).wall).s).sheet,O ((zaN S V (bs.getD i.toNat default).wall).s).length,C p95.1.1 ((zaN S V (bs.getD i.toNat default).wall).s).opens.length p95.1.2,.string ((zar S V (bs.getD i.toNat default).wall).s).name,O ((zar S V (bs.getD i.toNat default).wall).s).base,O ((zar S V (bs.getD i.toNat default).wall).s).batter,O ((zar S V (bs.getD i.toNat default).wall).s).height,O ((zar S V (bs.getD i.toNat default).wall).s).skin,C p95.2.1 ((zar S V (bs.getD i.toNat default).wall).s).heights.length p95.2.2,O ((zar S V (bs.getD i.toNat default).wall).s).least,O ((zar S V (bs.getD i.toNat default).wall).s).lap,O ((zar S V (bs.getD i.toNat default).wall).s).run,O ((zar S V (bs.getD i.toNat default).wall).s).every,O ((zar S V (bs.getD i.toNat default).wall).s).at_,O ((zar S V (bs.getD i.toNat default).wall).s).footing,O ((zar S V (bs.getD i.toNat default).wall).s).spread,.int .u8 ((zar S V (bs.getD i.toNat default).wall).s).cope,O ((zar S V (bs.getD i.toNat default).wall).s).tall,O ((zar S V (bs.getD i.toNat default).wall).s).short,O ((zar S V (bs.getD i.toNat default).wall).s).thick,O ((zar S V (bs.getD i.toNat default).wall).s).low,O ((zar S V (bs.getD i.toNat default).wall).s).high,O ((zar S V (bs.getD i.toNat default).wall).s).rood,.bool (bs.getD i.toNat default).shut,O (bs.getD i.toNat default).gA,O (bs.getD i.toNat default).gB,.string ((zaN S V (bs.getD i.toNat default).wall).s).name,.string ((zaN S V (bs.getD i.toNat default).wall).s).sheet,O ((zaN S V (bs.getD i.toNat default).wall).s).length,C p95.1.1 ((zaN S V (bs.getD i.toNat default).wall).s).opens.length p95.1.2,.string ((zar S V (bs.getD i.toNat default).wall).s).name,O ((zar S V (bs.getD i.toNat default).wall).s).base,O ((zar S V (bs.getD i.toNat default).wall).s).batter,O ((zar S V (bs.getD i.toNat default).wall).s).height,O ((zar S V (bs.getD i.toNat default).wall).s).skin,C p95.2.1 ((zar S V (bs.getD i.toNat default).wall).s).heights.length p95.2.2,O ((zar S V (bs.getD i.toNat default).wall).s).least,O ((zar S V (bs.getD i.toNat default).wall).s).lap,O ((zar S V (bs.getD i.toNat default).wall).s).run,O ((zar S V (bs.getD i.toNat default).wall).s).every,O ((zar S V (bs.getD i.toNat default).wall).s).at_,O ((zar S V (bs.getD i.toNat default).wall).s).footing,O ((zar S V (bs.getD i.toNat default).wall).s).spread,.int .u8 ((zar S V (bs.getD i.toNat default).wall).s).cope,O ((zar S V (bs.getD i.toNat default).wall).s).tall,O ((zar S V (bs.getD i.toNat default).wall).s).short,O ((zar S V (bs.getD i.toNat default).wall).s).thick,O ((zar S V (bs.getD i.toNat default).wall).s).low,O ((zar S V (bs.getD i.toNat default).wall).s).high,O ((zar S V (bs.getD i.toNat default).wall).s).rood,.bool (bs.getD i.toNat default).shut,O (bs.getD i.toNat default).gB,O (bs.getD i.toNat default).gA] 180,Box b15 (sV ((zar S V (bs.getD i.toNat default).wall).s) p95.2.1 p95.2.2) 118,Box b14 (wV ((zaN S V (bs.getD i.toNat default).wall).s) p95.1.1 p95.1.2) 116,Row p95.1.1 5 p95.1.2 122 zba (zaN S V (bs.getD i.toNat default).wall).s.opens,Row p95.2.1 1 p95.2.2 3 D (zar S V (bs.getD i.toNat default).wall).s.heights,Box b13 [O (bs.getD i.toNat default).a,O (bs.getD i.toNat default).b,.string (bs.getD i.toNat default).wall,O (bs.getD i.toNat default).gA,O (bs.getD i.toNat default).gB,.bool (bs.getD i.toNat default).shut] 64,Row wa 10 wc 148 zyw ((List.range i.toNat).map λ(i:Nat)=>wayB S V x i (bs.getD i default)),Row fa 1 fc 124 zy6 (F.map (·.1)),Go.K.Rows rowM F,Box b82 [C ca cs.length ccap,C ba bs.length bcp,C wa ((List.range i.toNat).map λ(i:Nat)=>wayB S V x i (bs.getD i default)).length wc,C fa (F.map (·.1)).length fc] 128,Row (some ⟨b56,0,none⟩) 1 5 3 D [x.wide,x.high,x.step,x.leap,x.reach],Box b5 (zzz2 x) 41,Box b4 (zzz6 ca cs ccap ba bs bcp) 40,Box b3 (zzz5 a S cap b V bcap) 37]) (λ(n:Int)=>(0≤n∧n≤(zaN S V (bs.getD i.toNat default).wall).s.opens.length)) (λ(n:Int)=>((zaN S V (bs.getD i.toNat default).wall).s.opens.length - n).toNat) 0 (sB I) I ?_ ?_
             ·exact⟨by omega,by omega⟩
             ·rintro n hI
              obtain⟨n0,n1⟩:=hI
              refine gS (gQ (zbw I I) (gN [3,4,5,6,7,11,12,14,19,20,21,22,23,84,85,86,169,170,195,196,197,198] I (zac (zap I (λ hc198=>?_) (λ hc198=>?_)))))
              ·have hc198:=oT hc198
               have hnl:n.toNat<(zyu S V x (bs.getD i.toNat default)).length:=by rw [hfl];omega
               have hgo:(zyu S V x (bs.getD i.toNat default)).getD n.toNat (false,false)=zBN S V x (bs.getD i.toNat default) ((zaN S V (bs.getD i.toNat default).wall).s.opens.getD n.toNat default):=zCr hnl
               refine zaq (zac (zas (gS (gM I (gQ (zaE zCz I I (λ _ hw=>(zam zyn (hw.has (p:=7) I)))) (gQ (zbv (vs:=[_,_,_,_,_]) zy2 I (λ _ hw=>(zam zyn (hw.has (p:=7) I))) (by omega) (by omega) I) (zaG I I (zaL zy2 (zs:=[_,_,_,_,_]) I) λ b27=>(gA I (zaA 0 zy2 I I (vs:=[_,_,_,_,_]) I I I I I (gN [3,4,5,6,7,11,12,14,19,20,21,22,23,26,27,84,85,86,169,170,195,196,197] I (gS (gM I (gM I (gQ (zyY (v:=.agg #[.bool false,.bool false]) (zAV zD2 I I (λ _ hw=>hw.has (p:=2) I)) (by rw [show n=(n.toNat:Int) from by omega];exact zGd)) (zaG I I (zaL zDk (zs:=[_,_]) I) λ b28=>(zaA 0 zDk I I (vs:=[_,_]) I I I I I (gN [3,4,5,6,7,11,12,14,19,20,21,22,23,26,27,28,84,85,86,169,170,195,196,197] I (gS (gM I (gQ (zat 2 zAl I I (vs:=[_,_,_,_,_,_,_,_,_,_,_,_,_,_,_,_,_,_,_,_,_,_,_,_,_,_,_]) I I) (gQ (zat 1 zy2 I I (vs:=[_,_,_,_,_]) I I) (gQ (zat 17 tf41 I I (vs:=[_,_,_,_,_]) I I) ?_))))))))))))))))))))))
               refine gQ (zaJ en79 I (λ w hw=>by_c _ _ (zaN S V (bs.getD i.toNat default).wall).s _ _ (zar S V (bs.getD i.toNat default).wall).s (bs.getD i.toNat default).shut ((bs.getD i.toNat default).gA) ((bs.getD i.toNat default).gB) ((zaN S V (bs.getD i.toNat default).wall).s.opens.getD n.toNat default) x w (zam Go.Stn.encI_ok (hw.has (p:=10) I)) hsss (zam zyn (hw.has (p:=9) I)) hG1 (hG1.wf.fit _ (za0 (by omega))))) (gM I (gQ (zaB I I) (gQ (zaB I I) (gQ (zyA 0 zGS I I I (by decide)) (zaA 0 tf4 I I (vs:=[_]) I I I I I (gN [3,4,5,6,7,11,12,14,19,20,21,22,23,26,28,84,85,86,169,170,195,196,197] I (zaa (gM I (gM I (gQ (zat 0 zDk I I (vs:=[_,_]) I I) (zA8 3 zD2 I I I I (gN [3,4,5,6,7,11,12,14,19,20,21,22,23,84,85,86,169,170,195,196,197] I ?_))))))))))))
               refine za2 (R':=MapZ b168 (frA (zyu S V x (bs.getD i.toNat default)) (n+1).toNat)) 3 I (λ B w hA=>by rw [show(n+1).toNat=n.toNat+1 from by omega,←zGe (l:=(zyu S V x (bs.getD i.toNat default))) (n:=n.toNat) (v:=(byG (zar S V (bs.getD i.toNat default).wall).s (bs.getD i.toNat default).shut ((bs.getD i.toNat default).gA) ((bs.getD i.toNat default).gB) ((zaN S V (bs.getD i.toNat default).wall).s.opens.getD n.toNat default) x).2) (by rw [hgo];rfl),show((n.toNat:Nat):Int)=n from by omega];exact hA) (zaa (gQ (zaY I I) (gM I (gN [3,4,5,6,7,11,12,14,19,20,21,22,23,84,85,86,169,170,195,196,197] I (zaK 0 I (zaK 0 I ?_))))))
               exact za1 (n+1) (sB I) I ⟨by omega,by omega⟩ (by omega)
              ·refine za2 (R':=MapZ b168 (frK (zyu S V x (bs.getD i.toNat default)) 1)) 1 I (λ B w hA=>by rw [show n.toNat=(zyu S V x (bs.getD i.toNat default)).length from by have:=oD hc198;omega,zGc] at hA;exact hA) (za8 I (zaa (gQ (zaY I I) (gM I (gN [3,4,5,6,7,11,12,14,19,20,21,84,85,86,169,170] I (za2 (R':=Box b20 [O ((prK (wayB S V x i (bs.getD i.toNat default)) 1).1.frm),O ((prK (wayB S V x i (bs.getD i.toNat default)) 1).1.to),O ((prK (wayB S V x i (bs.getD i.toNat default)) 1).1.brd),O ((prK (wayB S V x i (bs.getD i.toNat default)) 1).1.way),O ((prK (wayB S V x i (bs.getD i.toNat default)) 1).1.eff),O ((prK (wayB S V x i (bs.getD i.toNat default)) 1).2.frm),O ((prK (wayB S V x i (bs.getD i.toNat default)) 1).2.to),O ((prK (wayB S V x i (bs.getD i.toNat default)) 1).2.brd),O ((prK (wayB S V x i (bs.getD i.toNat default)) 1).2.way),O ((prK (wayB S V x i (bs.getD i.toNat default)) 1).2.eff)] 148) 2 I (λ B w hA=>by rw [zHk];exact hA) (zaK 0 I ?_)))))))
               exact za1 1 (sB I) I ⟨by decide,by decide⟩ (by omega)
            ·refine zae (T':=[(3,_),(4,_),(5,_),(6,_),(7,_),(11,_),(12,_),(14,_),(19,_),(20,_),(21,_),(84,_),(85,_),(86,_),(169,_),(170,O 1),(171,_)]) ⟨I,I,I,I,I,I,I,I,I,I,I,I,I,I,I,(by show some (Value.int .i64 k)=_;rw [hk]),I,trivial⟩ (za2 (R':=Box b20 [O ((wayB S V x i (bs.getD i.toNat default)).1.frm),O ((wayB S V x i (bs.getD i.toNat default)).1.to),O ((wayB S V x i (bs.getD i.toNat default)).1.brd),O ((wayB S V x i (bs.getD i.toNat default)).1.way),O ((wayB S V x i (bs.getD i.toNat default)).1.eff),O 0,O 0,O 0,O 0,O 0] 148) 1 I (λ B w hA=>by rw [hk,zHk] at hA;exact hA) (za2 (R':=MapZ b168 (frB2 (zyu S V x (bs.getD i.toNat default)) (0:Int).toNat)) 0 I (λ B w hA=>by rw [hk] at hA;rw [show(0:Int).toNat=0 from rfl,zHK];exact hA) (zaq (zac (zas (gS (gM I (gQ (zzF I I (zGm _ _ _ _ _ _ _ _ _ _ _ _ _ _ _ _ _ _ _ _ _ _ _ _ _ _ _ _ _ _ _ _ _ _ _ _ _ _ _ _ _ _ _ _ _ _ _ _ _ _ _ _ _ _ _ _ _ _ _ _ _ _)) (zaG I I (zaL zAl (zs:=[_,_,_,_,_,_,_,_,_,_,_,_,_,_,_,_,_,_,_,_,_,_,_,_,_,_,_]) I) λ b23=>(gA I ?_))))))))))
             refine zbz 0 zAl I I (vs:=[_,_,_,_,_,_,_,_,_,_,_,_,_,_,_,_,_,_,_,_,_,_,_,_,_,_,_]) I I I I I (gN [3,4,5,6,7,11,12,14,19,20,21,22,23,84,85,86,169,170] I (gS (gQ (zat 0 zAl I I (vs:=[_,_,_,_,_,_,_,_,_,_,_,_,_,_,_,_,_,_,_,_,_,_,_,_,_,_,_]) I I) (gQ (zat 15 tf41 I I (vs:=[_,_,_,_,_]) I I) (gQ (zaJ en78 I (λ w hw=>zFo _ _ (zaN S V (bs.getD i.toNat default).wall).s _ _ (zar S V (bs.getD i.toNat default).wall).s (bs.getD i.toNat default).shut ((bs.getD i.toNat default).gB) ((bs.getD i.toNat default).gA) x w (zam Go.Stn.encI_ok (hw.has (p:=8) I)) hsss (zam zyn (hw.has (p:=7) I)) hG2)) (gM I (gQ (zaB I I) (gQ (zaB I I) (gA I (gA I (gN [3,4,5,6,7,11,12,14,19,20,21,22,23,24,25,84,85,86,169,170] I (zac (gZ 14 (ph_y (zaf I) (ph_y (zaf I) (ph_y (zyA 1 zEz I I I (by decide)) (ph_y (zyA 0 zEy I I I (by decide)) (ph_y (zah 3 tf3 I I I) (ph_y (zaf I) (ph_y (zyA 1 zEz I I I (by decide)) (ph_y (zyA 1 zEy I I I (by decide)) (ph_y (zah 3 tf3 I I I) (ph_y (zaf I) (ph_y (zaf I) (ph_y (zaf I) (ph_y (zaI I (zyZ _ _ _ _ _)) ?_))))))))))))))))))))))))))
             refine ph_y (zyA 1 zz9 I I I (by decide)) (gK [3,4,5,6,7,11,12,14,19,20,21,22,23,84,85,86,169,170,192,193] I (zaA 2 zyD I I (vs:=[_,_,_,_,_]) I I I I I (gN [3,4,5,6,7,11,12,14,19,20,21,22,23,84,85,86,169,170] I (gS (gQ (zab zyL I) (gQ (zah 6 zAi I I I) (gQ (zaV (Tryz.underlying114) I) (gM I (gN [3,4,5,6,7,11,12,14,19,20,21,22,23,84,85,86,169,170,195,196,197] I (zas ?_))))))))))
             refine zbf (X:=Int) (λ(n:Int)=>[(3,Z b3),(4,Z b4),(5,Z b5),(6,.pointer none),(7,O 0),(11,Z b82),(12,O i),(14,Z b14),(19,Z b19),(20,Z b20),(21,.map (some b168)),(22,O 1),(23,Z b23),(84,C ba bs.length bcp),(85,O (bs.length:Int)),(86,O i),(169,qV ((zaN S V (bs.getD i.toNat default).wall).s) p95.1.1 p95.1.2 ((zar S V (bs.getD i.toNat default).wall).s) p95.2.1 p95.2.2 ((bs.getD i.toNat default).shut) ((bs.getD i.toNat default).gA) ((bs.getD i.toNat default).gB) ((zaN S V (bs.getD i.toNat default).wall).s) p95.1.1 p95.1.2 ((zar S V (bs.getD i.toNat default).wall).s) p95.2.1 p95.2.2 ((bs.getD i.toNat default).shut) ((bs.getD i.toNat default).gB) ((bs.getD i.toNat default).gA)),(170,O 1),(195,C p95.1.1 (zaN S V (bs.getD i.toNat default).wall).s.opens.length p95.1.2),(196,O ((zaN S V (bs.getD i.toNat default).wall).s.opens.length:Int)),(197,O n)]) (λ(n:Int)=>[Box b23 (lV ((zaN S V (bs.getD i.toNat default).wall).s) p95.1.1 p95.1.2 ((zar S V (bs.getD i.toNat default).wall).s) p95.2.1 p95.2.2 ((bs.getD i.toNat default).shut) ((bs.getD i.toNat default).gB) ((bs.getD i.toNat default).gA)) 179,MapZ b168 (frB2 (zyu S V x (bs.getD i.toNat default)) n.toNat),Box b20 [O ((wayB S V x i (bs.getD i.toNat default)).1.frm),O ((wayB S V x i (bs.getD i.toNat default)).1.to),O ((wayB S V x i (bs.getD i.toNat default)).1.brd),O ((wayB S V x i (bs.getD i.toNat default)).1.way),O ((wayB S V x i (bs.getD i.toNat default)).1.eff),O (bs.getD i.toNat default).b,O (bs.getD i.toNat default).a,O i,O ((zzX (zar S V (bs.getD i.toNat default).wall).s (bs.getD i.toNat default).shut ((bs.getD i.toNat default).gB) ((bs.getD i.toNat default).gA) (zaN S V (bs.getD i.toNat default).wall).s.opens x).1),O ((zzX (zar S V (bs.getD i.toNat default).wall).s (bs.getD i.toNat default).shut ((bs.getD i.toNat default).gB) ((bs.getD i.toNat default).gA) (zaN S V (bs.getD i.toNat default).wall).s.opens x).2)] 148,Box b19 [O (bs.getD i.toNat default).a,O (bs.getD i.toNat default).b,O (bs.getD i.toNat default).b,O (bs.getD i.toNat default).a] 181,Box b18 [.string ((zaN S V (bs.getD i.toNat default).wall).s).name,.string ((zaN S V (bs.getD i.toNat default).wall).s).sheet,O ((zaN S V (bs.getD i.toNat default).wall).s).length,C p95.1.1 ((zaN S V (bs.getD i.toNat default).wall).s).opens.length p95.1.2,.string ((zar S V (bs.getD i.toNat default).wall).s).name,O ((zar S V (bs.getD i.toNat default).wall).s).base,O ((zar S V (bs.getD i.toNat default).wall).s).batter,O ((zar S V (bs.getD i.toNat default).wall).s).height,O ((zar S V (bs.getD i.toNat default).wall).s).skin,C p95.2.1 ((zar S V (bs.getD i.toNat default).wall).s).heights.length p95.2.2,O ((zar S V (bs.getD i.toNat default).wall).s).least,O ((zar S V (bs.getD i.toNat default).wall).s).lap,O ((zar S V (bs.getD i.toNat default).wall).s).run,O ((zar S V (bs.getD i.toNat default).wall).s).every,O ((zar S V (bs.getD i.toNat default).wall).s).at_,O ((zar S V (bs.getD i.toNat default).wall).s).footing,O ((zar S V (bs.getD i.toNat default).wall).s).spread,.int .u8 ((zar S V (bs.getD i.toNat default).wall).s).cope,O ((zar S V (bs.getD i.toNat default).wall).s).tall,O ((zar S V (bs.getD i.toNat default).wall).s).short,O ((zar S V (bs.getD i.toNat default).wall).s).thick,O ((zar S V (bs.getD i.toNat default).wall).s).low,O ((zar S V (bs.getD i.toNat default).wall).s).high,O ((zar S V (bs.getD i.toNat default).wall).s).rood,.bool (bs.getD i.toNat default).shut,O (bs.getD i.toNat default).gA,O (bs.getD i.toNat default).gB,.string ((zaN S V (bs.getD i.toNat default).wall).s).name,.string ((zaN S V (bs.getD i.toNat default).wall).s).sheet,O ((zaN S V (bs.getD i.toNat default).wall).s).length,C p95.1.1 ((zaN S V (bs.getD i.toNat default).wall).s).opens.length p95.1.2,.string ((zar S V (bs.getD i.toNat default).wall).s).name,O ((zar S V (bs.getD i.toNat default).wall).s).base,O ((zar S V (bs.getD i.toNat default).wall).s).batter,O ((zar S V (bs.getD i.toNat default).wall).s).height,O ((zar S V (bs.getD i.toNat default).wall).s).skin,C p95.2.1 ((zar S V (bs.getD i.toNat default).wall).s).heights.length p95.2.2,O ((zar S V (bs.getD i.toNat default).wall).s).least,O ((zar S V (bs.getD i.toNat default).wall).s).lap,O ((zar S V (bs.getD i.toNat default).wall).s).run,O ((zar S V (bs.getD i.toNat default).wall).s).every,O ((zar S V (bs.getD i.toNat default).wall).s).at_,O ((zar S V (bs.getD i.toNat default).wall).s).footing,O ((zar S V (bs.getD i.toNat default).wall).s).spread,.int .u8 ((zar S V (bs.getD i.toNat default).wall).s).cope,O ((zar S V (bs.getD i.toNat default).wall).s).tall,O ((zar S V (bs.getD i.toNat default).wall).s).short,O ((zar S V (bs.getD i.toNat default).wall).s).thick,O ((zar S V (bs.getD i.toNat default).wall).s).low,O ((zar S V (bs.getD i.toNat default).wall).s).high,O ((zar S V (bs.getD i.toNat default).wall).s).rood,.bool (bs.getD i.toNat default).shut,O (bs.getD i.toNat default).gB,O (bs.getD i.toNat default).gA] 180,Box b15 (sV ((zar S V (bs.getD i.toNat default).wall).s) p95.2.1 p95.2.2) 118,Box b14 (wV ((zaN S V (bs.getD i.toNat default).wall).s) p95.1.1 p95.1.2) 116,Row p95.1.1 5 p95.1.2 122 zba (zaN S V (bs.getD i.toNat default).wall).s.opens,Row p95.2.1 1 p95.2.2 3 D (zar S V (bs.getD i.toNat default).wall).s.heights,Box b13 [O (bs.getD i.toNat default).a,O (bs.getD i.toNat default).b,.string (bs.getD i.toNat default).wall,O (bs.getD i.toNat default).gA,O (bs.getD i.toNat default).gB,.bool (bs.getD i.toNat default).shut] 64,Row wa 10 wc 148 zyw ((List.range i.toNat).map λ(i:Nat)=>wayB S V x i (bs.getD i default)),Row fa 1 fc 124 zy6 (F.map (·.1)),Go.K.Rows rowM F,Box b82 [C ca cs.length ccap,C ba bs.length bcp,C wa ((List.range i.toNat).map λ(i:Nat)=>wayB S V x i (bs.getD i default)).length wc,C fa (F.map (·.1)).length fc] 128,Row (some ⟨b56,0,none⟩) 1 5 3 D [x.wide,x.high,x.step,x.leap,x.reach],Box b5 (zzz2 x) 41,Box b4 (zzz6 ca cs ccap ba bs bcp) 40,Box b3 (zzz5 a S cap b V bcap) 37]) (λ(n:Int)=>(0≤n∧n≤(zaN S V (bs.getD i.toNat default).wall).s.opens.length)) (λ(n:Int)=>((zaN S V (bs.getD i.toNat default).wall).s.opens.length - n).toNat) 0 (sB I) I ?_ ?_
             ·exact⟨by omega,by omega⟩
             ·rintro n hI
              obtain⟨n0,n1⟩:=hI
              refine gS (gQ (zbw I I) (gN [3,4,5,6,7,11,12,14,19,20,21,22,23,84,85,86,169,170,195,196,197,198] I (zac (zap I (λ hc198=>?_) (λ hc198=>?_)))))
              ·have hc198:=oT hc198
               have hnl:n.toNat<(zyu S V x (bs.getD i.toNat default)).length:=by rw [hfl];omega
               have hgo:(zyu S V x (bs.getD i.toNat default)).getD n.toNat (false,false)=zBN S V x (bs.getD i.toNat default) ((zaN S V (bs.getD i.toNat default).wall).s.opens.getD n.toNat default):=zCr hnl
               refine zaq (zac (zas (gS (gM I (gQ (zaE zCz I I (λ _ hw=>(zam zyn (hw.has (p:=7) I)))) (gQ (zbv (vs:=[_,_,_,_,_]) zy2 I (λ _ hw=>(zam zyn (hw.has (p:=7) I))) (by omega) (by omega) I) (zaG I I (zaL zy2 (zs:=[_,_,_,_,_]) I) λ b27=>(gA I (zaA 0 zy2 I I (vs:=[_,_,_,_,_]) I I I I I (gN [3,4,5,6,7,11,12,14,19,20,21,22,23,26,27,84,85,86,169,170,195,196,197] I (gS (gM I (gM I (gQ (zyY (v:=.agg #[.bool ((zyu S V x (bs.getD i.toNat default)).getD n.toNat (false,false)).1,.bool false]) (zAV zD2 I I (λ _ hw=>hw.has (p:=2) I)) (by rw [show n=(n.toNat:Int) from by omega];exact(zGg hnl))) (zaG I I (zaL zDk (zs:=[_,_]) I) λ b28=>(zaA 0 zDk I I (vs:=[_,_]) I I I I I (gN [3,4,5,6,7,11,12,14,19,20,21,22,23,26,27,28,84,85,86,169,170,195,196,197] I (gS (gM I (gQ (zat 2 zAl I I (vs:=[_,_,_,_,_,_,_,_,_,_,_,_,_,_,_,_,_,_,_,_,_,_,_,_,_,_,_]) I I) (gQ (zat 1 zy2 I I (vs:=[_,_,_,_,_]) I I) (gQ (zat 17 tf41 I I (vs:=[_,_,_,_,_]) I I) ?_))))))))))))))))))))))
               refine gQ (zaJ en79 I (λ w hw=>by_c _ _ (zaN S V (bs.getD i.toNat default).wall).s _ _ (zar S V (bs.getD i.toNat default).wall).s (bs.getD i.toNat default).shut ((bs.getD i.toNat default).gB) ((bs.getD i.toNat default).gA) ((zaN S V (bs.getD i.toNat default).wall).s.opens.getD n.toNat default) x w (zam Go.Stn.encI_ok (hw.has (p:=10) I)) hsss (zam zyn (hw.has (p:=9) I)) hG2 (hG1.wf.fit _ (za0 (by omega))))) (gM I (gQ (zaB I I) (gQ (zaB I I) (gQ (zyA 1 zGS I I I (by decide)) (zaA 0 tf4 I I (vs:=[_]) I I I I I (gN [3,4,5,6,7,11,12,14,19,20,21,22,23,26,28,84,85,86,169,170,195,196,197] I (zaa (gM I (gM I (gQ (zat 0 zDk I I (vs:=[_,_]) I I) (zA8 3 zD2 I I I I (gN [3,4,5,6,7,11,12,14,19,20,21,22,23,84,85,86,169,170,195,196,197] I ?_))))))))))))
               refine za2 (R':=MapZ b168 (frB2 (zyu S V x (bs.getD i.toNat default)) (n+1).toNat)) 3 I (λ B w hA=>by rw [show(n+1).toNat=n.toNat+1 from by omega,←zGh hnl (u:=((zyu S V x (bs.getD i.toNat default)).getD n.toNat (false,false)).1) (v:=(byG (zar S V (bs.getD i.toNat default).wall).s (bs.getD i.toNat default).shut ((bs.getD i.toNat default).gB) ((bs.getD i.toNat default).gA) ((zaN S V (bs.getD i.toNat default).wall).s.opens.getD n.toNat default) x).2) I (by rw [hgo];rfl),show((n.toNat:Nat):Int)=n from by omega];exact hA) (zaa (gQ (zaY I I) (gM I (gN [3,4,5,6,7,11,12,14,19,20,21,22,23,84,85,86,169,170,195,196,197] I (zaK 0 I (zaK 0 I ?_))))))
               exact za1 (n+1) (sB I) I ⟨by omega,by omega⟩ (by omega)
              ·refine za2 (R':=MapZ b168 (frK (zyu S V x (bs.getD i.toNat default)) 2)) 1 I (λ B w hA=>by rw [show n.toNat=(zyu S V x (bs.getD i.toNat default)).length from by have:=oD hc198;omega,zGf] at hA;exact hA) (za8 I (zaa (gQ (zaY I I) (gM I (gN [3,4,5,6,7,11,12,14,19,20,21,84,85,86,169,170] I (za2 (R':=Box b20 [O ((prK (wayB S V x i (bs.getD i.toNat default)) 2).1.frm),O ((prK (wayB S V x i (bs.getD i.toNat default)) 2).1.to),O ((prK (wayB S V x i (bs.getD i.toNat default)) 2).1.brd),O ((prK (wayB S V x i (bs.getD i.toNat default)) 2).1.way),O ((prK (wayB S V x i (bs.getD i.toNat default)) 2).1.eff),O ((prK (wayB S V x i (bs.getD i.toNat default)) 2).2.frm),O ((prK (wayB S V x i (bs.getD i.toNat default)) 2).2.to),O ((prK (wayB S V x i (bs.getD i.toNat default)) 2).2.brd),O ((prK (wayB S V x i (bs.getD i.toNat default)) 2).2.way),O ((prK (wayB S V x i (bs.getD i.toNat default)) 2).2.eff)] 148) 2 I (λ B w hA=>by rw [zHl];exact hA) (zaK 0 I ?_)))))))
               exact za1 2 (sB I) I ⟨by decide,by decide⟩ (by omega)
           ·have hk2:k=2:=by have:=oD hc171;omega
            refine za2 (R':=Box b20 [O ((wayB S V x i (bs.getD i.toNat default)).1.frm),O ((wayB S V x i (bs.getD i.toNat default)).1.to),O ((wayB S V x i (bs.getD i.toNat default)).1.brd),O ((wayB S V x i (bs.getD i.toNat default)).1.way),O ((wayB S V x i (bs.getD i.toNat default)).1.eff),O ((wayB S V x i (bs.getD i.toNat default)).2.frm),O ((wayB S V x i (bs.getD i.toNat default)).2.to),O ((wayB S V x i (bs.getD i.toNat default)).2.brd),O ((wayB S V x i (bs.getD i.toNat default)).2.way),O ((wayB S V x i (bs.getD i.toNat default)).2.eff)] 148) 1 I (λ B w hA=>by rw [hk2,zHl] at hA;exact hA) (za2 (R':=MapZ b168 (frZ (zyu S V x (bs.getD i.toNat default)))) 0 I (λ B w hA=>by rw [hk2,zHL] at hA;exact hA) (za8 I (zao 10 I (zao 10 I (zao 12 I (zCs [_,_,_] (ch [(7,Nat),(14,Nat),(8,(Option Addr×Nat)),(15,(Option Addr×Nat))]) 1000 19 [0,0,0,4,12,28,0,64,252,0,512,1536,3584,0,8192,32764,65533,131069,262141,524287,1048575,2097151] [(5,1000),(12,1000)] I (λ _=>mixed) (by kernel_rfl) (zjK _ ⟨inferInstance,inferInstance,inferInstance,inferInstance,trivial⟩) (pY (λ ρ=>zaf I) (pY (λ ρ=>zaf I) (pY (λ ρ=>zaf I) (pY (λ ρ=>zbx I) (pY (λ ρ=>zab zyG I) ?_)))))))))))
            refine zBb (R:=λ ρ=>Box b82 [C ca cs.length ccap,C ba bs.length bcp,C wa ((List.range i.toNat).map λ(i:Nat)=>wayB S V x i (bs.getD i default)).length wc,C fa (F.map (·.1)).length fc] 128) 1000 I I (by kernel_rfl) (λ _=>by kernel_rfl) (λ ρ=>zah 0 zzV I I I) (λ ρ ρ' h=>by rfl) (pY (λ ρ=>zat 1 zA0 I I (vs:=[_,_,_,_,_,_,_,_,_,_]) I I) (zFy (λ ρ=>zaD I (zFP _ _ _ _ _ _ _ _ _ _) zyl I) (λ ρ ρ' h=>⟨by rfl,by rfl⟩) ?_))
            refine zFx (R:=λ ρ=>Row wa 10 wc 148 zyw ((List.range i.toNat).map λ(i:Nat)=>wayB S V x i (bs.getD i default))) (λ z:(Option Addr×Nat)=>C z.1 (((List.range i.toNat).map λ(i:Nat)=>wayB S V x i (bs.getD i default))++[(wayB S V x i (bs.getD i.toNat default))]).length z.2) (λ z=>Row z.1 10 z.2 148 zyw (((List.range i.toNat).map λ(i:Nat)=>wayB S V x i (bs.getD i default))++[(wayB S V x i (bs.getD i.toNat default))])) 1001 I (by kernel_rfl) (by kernel_rfl) (λ _=>by kernel_rfl) (λ ρ=>zBZ (m:=[(wayB S V x i (bs.getD i.toNat default))]) zHu zyl I I (λ _ hw=>(zam zyl (hw.has (p:=0) (R:=Row (some ⟨(ρ 7),0,none⟩) 10 1 148 zyw [(wayB S V x i (bs.getD i.toNat default))]) (by simp only [zeS,tIs,okSt,rcf,zbe];rfl)))) (by simp only [hwl,lC,lN];(try unfold maxLen);omega) (by simp only [hwl,lC,lN];(try unfold maxLen);omega)) (pY (λ ρ=>zaf I) (pY (λ ρ=>zbx I) (pY (λ ρ=>zab zCj I) (zBb (R:=λ ρ=>Box b82 [C ca cs.length ccap,C ba bs.length bcp,C wa ((List.range i.toNat).map λ(i:Nat)=>wayB S V x i (bs.getD i default)).length wc,C fa (F.map (·.1)).length fc] 128) 1000 I I (by kernel_rfl) (λ _=>by kernel_rfl) (λ ρ=>zah 0 zGI I I I) (λ ρ ρ' h=>by rfl) ?_))))
            refine pY (λ ρ=>zaf I) (zFy (λ ρ=>zaD I (zFQ b168) zzY I) (λ ρ ρ' h=>⟨by rfl,by rfl⟩) (zFx (R:=λ ρ=>Row fa 1 fc 124 zy6 (F.map (·.1))) (λ z:(Option Addr×Nat)=>C z.1 ((F.map (·.1))++[b168]).length z.2) (λ z=>Row z.1 1 z.2 124 zy6 ((F.map (·.1))++[b168])) 1002 I (by kernel_rfl) (by kernel_rfl) (λ _=>by kernel_rfl) (λ ρ=>zBZ (m:=[b168]) zHv zzY I I (λ _ hw=>(zam zzY (hw.has (p:=0) (R:=Row (some ⟨(ρ 14),0,none⟩) 1 1 124 zy6 [b168]) (by simp only [zeS,tIs,okSt,rcf,zbe];rfl)))) (by simp only [hfm,lC,lN];(try unfold maxLen);omega) (by simp only [hfm,lC,lN];(try unfold maxLen);omega)) (pY (λ ρ=>zbx I) (pY (λ ρ=>zab zyG I) ?_))))
            refine zBT (R:=λ ρ=>Box b82 [C ca cs.length ccap,C ba bs.length bcp,C wa ((List.range i.toNat).map λ(i:Nat)=>wayB S V x i (bs.getD i default)).length wc,C fa (F.map (·.1)).length fc] 128) (A:=λ ρ=>Box b82 [C ca cs.length ccap,C ba bs.length bcp,.slice (ρ 8).1 (((List.range i.toNat).map λ(i:Nat)=>wayB S V x i (bs.getD i default))++[(wayB S V x i (bs.getD i.toNat default))]).length (ρ 8).2,C fa (F.map (·.1)).length fc] 128) 1000 I (by kernel_rfl) (by kernel_rfl) (λ _=>by kernel_rfl) (λ ρ=>zex zzV I I (vs:=[_]) I I I I I) (λ ρ ρ' h=>by(first|rfl|(simp only [h 8 I];done)|(simp only [h 8 I];rfl))) ?_
            refine λ ρ=>zf4 (X:=Nat×Nat×(Option Addr×Nat)×(Option Addr×Nat)) (ρ 7,ρ 14,ρ 8,ρ 15) (λ⟨b226,b233,m227,m234⟩=>[(3,Z b3),(4,Z b4),(5,Z b5),(6,.pointer none),(7,O 0),(11,Z b82),(84,C ba bs.length bcp),(85,O (bs.length:Int)),(86,O i),(220,Z b82),(234,C m234.1 ((F.map (·.1))++[b168]).length m234.2)]) (λ⟨b226,b233,m227,m234⟩=>[Row (some ⟨b233,0,none⟩) 1 1 124 zy6 [b168],Row (some ⟨b226,0,none⟩) 10 1 148 zyw [(wayB S V x i (bs.getD i.toNat default))],Box b82 [C ca cs.length ccap,C ba bs.length bcp,C m227.1 (((List.range i.toNat).map λ(i:Nat)=>wayB S V x i (bs.getD i default))++[(wayB S V x i (bs.getD i.toNat default))]).length m227.2,C fa (F.map (·.1)).length fc] 128,Row m227.1 10 m227.2 148 zyw (((List.range i.toNat).map λ(i:Nat)=>wayB S V x i (bs.getD i default))++[(wayB S V x i (bs.getD i.toNat default))]),Row m234.1 1 m234.2 124 zy6 ((F.map (·.1))++[b168]),MapZ b168 (frZ (zyu S V x (bs.getD i.toNat default))),Box b20 [O ((wayB S V x i (bs.getD i.toNat default)).1.frm),O ((wayB S V x i (bs.getD i.toNat default)).1.to),O ((wayB S V x i (bs.getD i.toNat default)).1.brd),O ((wayB S V x i (bs.getD i.toNat default)).1.way),O ((wayB S V x i (bs.getD i.toNat default)).1.eff),O ((wayB S V x i (bs.getD i.toNat default)).2.frm),O ((wayB S V x i (bs.getD i.toNat default)).2.to),O ((wayB S V x i (bs.getD i.toNat default)).2.brd),O ((wayB S V x i (bs.getD i.toNat default)).2.way),O ((wayB S V x i (bs.getD i.toNat default)).2.eff)] 148,Box b19 [O (bs.getD i.toNat default).a,O (bs.getD i.toNat default).b,O (bs.getD i.toNat default).b,O (bs.getD i.toNat default).a] 181,Box b18 [.string ((zaN S V (bs.getD i.toNat default).wall).s).name,.string ((zaN S V (bs.getD i.toNat default).wall).s).sheet,O ((zaN S V (bs.getD i.toNat default).wall).s).length,C p95.1.1 ((zaN S V (bs.getD i.toNat default).wall).s).opens.length p95.1.2,.string ((zar S V (bs.getD i.toNat default).wall).s).name,O ((zar S V (bs.getD i.toNat default).wall).s).base,O ((zar S V (bs.getD i.toNat default).wall).s).batter,O ((zar S V (bs.getD i.toNat default).wall).s).height,O ((zar S V (bs.getD i.toNat default).wall).s).skin,C p95.2.1 ((zar S V (bs.getD i.toNat default).wall).s).heights.length p95.2.2,O ((zar S V (bs.getD i.toNat default).wall).s).least,O ((zar S V (bs.getD i.toNat default).wall).s).lap,O ((zar S V (bs.getD i.toNat default).wall).s).run,O ((zar S V (bs.getD i.toNat default).wall).s).every,O ((zar S V (bs.getD i.toNat default).wall).s).at_,O ((zar S V (bs.getD i.toNat default).wall).s).footing,O ((zar S V (bs.getD i.toNat default).wall).s).spread,.int .u8 ((zar S V (bs.getD i.toNat default).wall).s).cope,O ((zar S V (bs.getD i.toNat default).wall).s).tall,O ((zar S V (bs.getD i.toNat default).wall).s).short,O ((zar S V (bs.getD i.toNat default).wall).s).thick,O ((zar S V (bs.getD i.toNat default).wall).s).low,O ((zar S V (bs.getD i.toNat default).wall).s).high,O ((zar S V (bs.getD i.toNat default).wall).s).rood,.bool (bs.getD i.toNat default).shut,O (bs.getD i.toNat default).gA,O (bs.getD i.toNat default).gB,.string ((zaN S V (bs.getD i.toNat default).wall).s).name,.string ((zaN S V (bs.getD i.toNat default).wall).s).sheet,O ((zaN S V (bs.getD i.toNat default).wall).s).length,C p95.1.1 ((zaN S V (bs.getD i.toNat default).wall).s).opens.length p95.1.2,.string ((zar S V (bs.getD i.toNat default).wall).s).name,O ((zar S V (bs.getD i.toNat default).wall).s).base,O ((zar S V (bs.getD i.toNat default).wall).s).batter,O ((zar S V (bs.getD i.toNat default).wall).s).height,O ((zar S V (bs.getD i.toNat default).wall).s).skin,C p95.2.1 ((zar S V (bs.getD i.toNat default).wall).s).heights.length p95.2.2,O ((zar S V (bs.getD i.toNat default).wall).s).least,O ((zar S V (bs.getD i.toNat default).wall).s).lap,O ((zar S V (bs.getD i.toNat default).wall).s).run,O ((zar S V (bs.getD i.toNat default).wall).s).every,O ((zar S V (bs.getD i.toNat default).wall).s).at_,O ((zar S V (bs.getD i.toNat default).wall).s).footing,O ((zar S V (bs.getD i.toNat default).wall).s).spread,.int .u8 ((zar S V (bs.getD i.toNat default).wall).s).cope,O ((zar S V (bs.getD i.toNat default).wall).s).tall,O ((zar S V (bs.getD i.toNat default).wall).s).short,O ((zar S V (bs.getD i.toNat default).wall).s).thick,O ((zar S V (bs.getD i.toNat default).wall).s).low,O ((zar S V (bs.getD i.toNat default).wall).s).high,O ((zar S V (bs.getD i.toNat default).wall).s).rood,.bool (bs.getD i.toNat default).shut,O (bs.getD i.toNat default).gB,O (bs.getD i.toNat default).gA] 180,Box b15 (sV ((zar S V (bs.getD i.toNat default).wall).s) p95.2.1 p95.2.2) 118,Box b14 (wV ((zaN S V (bs.getD i.toNat default).wall).s) p95.1.1 p95.1.2) 116,Row p95.1.1 5 p95.1.2 122 zba (zaN S V (bs.getD i.toNat default).wall).s.opens,Row p95.2.1 1 p95.2.2 3 D (zar S V (bs.getD i.toNat default).wall).s.heights,Box b13 [O (bs.getD i.toNat default).a,O (bs.getD i.toNat default).b,.string (bs.getD i.toNat default).wall,O (bs.getD i.toNat default).gA,O (bs.getD i.toNat default).gB,.bool (bs.getD i.toNat default).shut] 64,Go.K.Rows rowM F,Row (some ⟨b56,0,none⟩) 1 5 3 D [x.wide,x.high,x.step,x.leap,x.reach],Box b5 (zzz2 x) 41,Box b4 (zzz6 ca cs ccap ba bs bcp) 40,Box b3 (zzz5 a S cap b V bcap) 37]) (sB I) I ?_
            rintro ⟨b226,b233,m227,m234⟩
            refine gQ (zbx I) (gQ (zab zCj I) (zaA 2 zGI I I (vs:=[_]) I I I I I (gN [3,4,5,6,7,11,84,85,86] I ?_)))
            have hW1:=zEs (S:=S) (V:=V) (bs:=bs) (x:=x) g0
            refine za2 (R':=Row m227.1 10 m227.2 148 zyw ((List.range (i+1).toNat).map λ(i:Nat)=>wayB S V x i (bs.getD i default))) 3 I (λ B w hA=>by rw [hW1];exact hA) (za2 (R':=Row m234.1 1 m234.2 124 zy6 ((F++[(b168,(zyu S V x (bs.getD i.toNat default)))]).map (·.1))) 4 I (λ B w hA=>by rw [List.map_append];exact hA) (za2 (R':=Box b82 [C ca cs.length ccap,C ba bs.length bcp,C m227.1 ((List.range (i+1).toNat).map λ(i:Nat)=>wayB S V x i (bs.getD i default)).length m227.2,C m234.1 ((F++[(b168,(zyu S V x (bs.getD i.toNat default)))]).map (·.1)).length m234.2] 128) 2 I (λ B w hA=>by rw [hW1,List.map_append];exact hA) (zao 5 I (zao 14 I (zbT 2 (za2 (R':=Go.K.Rows rowM (F++[(b168,(zyu S V x (bs.getD i.toNat default)))])) 0 I (λ B w hA=>zfr hA) (zao 3 I (zao 1 I (zao 5 I (zao 5 I (zaa (gQ (zaY I I) (gM I (gN [3,4,5,6,7,11,84,85,86] I (zaK 4 I (zaK 4 I (zaK 4 I (zaK 4 I (zaK 4 I (zaK 4 I (zaK 4 I (zaK 4 I (zaK 4 I (zaK 4 I ?_))))))))))))))))))))))))
            exact za1 (i+1,(m227.1,m227.2),(m234.1,m234.2),(F++[(b168,(zyu S V x (bs.getD i.toNat default)))])) (sB I) I ⟨by omega,by omega,by rw [List.map_append,g2,zDd g0];rfl,λ j hj=>if h:(j:Int)<i then g3 j h else(by rw [show j=i.toNat from by omega];exact hbrd)⟩ (by simp only [];omega)
        ·have hc87:=oD hc87
         refine za8 I (gS (gM I (gA I (gA I (gN [6,7] I (zaw ?_))))))
         have hiL:i.toNat=bs.length:=by omega
         have hok:zym S V cs bs x=true:=zCU hhead (λ j hj=>hcl j (by omega)) (λ j hj=>g3 j (by omega))
         have hWW:(zyj S V bs x)=((List.range i.toNat).map λ(i:Nat)=>wayB S V x i (bs.getD i default)):=by rw [hiL];rfl
         refine za2 (R':=Row wa 10 wc 148 zyw (zyj S V bs x)) 0 I (λ B w hA=>by rw [hWW];exact hA) (za2 (R':=Box b82 [C ca cs.length ccap,C ba bs.length bcp,C wa (zyj S V bs x).length wc,C fa (F.map (·.1)).length fc] 128) 3 I (λ B w hA=>by rw [hWW];exact hA) (zao 2 I (zao 2 I (zao 2 I (zao 3 I (zbT 4 (zBO (P:=F.map (·.2)=(zzS S V bs x)) (by rw [g2,hiL];rfl) ?_)))))))
         exact zbd (b82,(wa,wc),(fa,fc),F) 0 (zc2 I (zau I) (zau I)) (by rw [zBY,if_pos hok]) (by rw [zBX,if_pos hok];rfl)
   ·replace hg45:_=true:=hg45
    try rw [hg45]
    refine gF I I I (gF I I I (gF I I I (gF I I I (gF I I I (gF I I I (gF I I I (gF I I I (gF I I I (gF I I I (gF I I I (gF I I I (gQ (za5 I I I) (gN [3,4,5,6,7,59] I (zdg I (gS (gA I (gA I (gN [3,4,5,6,7] I (zaw ?_)))))))))))))))))))
    have hno:zym S V cs bs x=false:=by first|exact hno0|exact zzA hg32|exact zzB hg39|exact zzC hg45
    refine zyS ?_
    exact zbd (0,(none,0),(none,0),[]) 0 (zc2 I (zau I) (zau I)) (by rw [zBY,if_neg (by rw [hno];exact fT)]) (by rw [zBX,if_neg (by rw [hno];exact fT)];rfl)
  ·replace hg39:_=true:=hg39
   try rw [hg39]
   refine gF I I I (gF I I I (gF I I I (gQ (za5 I I I) (gM I (gF I I I (gF I I I (gF I I I (gF I I I (gF I I I (gF I I I (gF I I I (gF I I I (gF I I I (gF I I I (gF I I I (gF I I I (gF I I I (gQ (za5 I I I) (gN [3,4,5,6,7,59] I (zdg I (gS (gA I (gA I (gN [3,4,5,6,7] I (zaw ?_)))))))))))))))))))))))))
   have hno:zym S V cs bs x=false:=by first|exact hno0|exact zzA hg32|exact zzB hg39|exact zzC hg45
   refine zyS ?_
   exact zbd (0,(none,0),(none,0),[]) 0 (zc2 I (zau I) (zau I)) (by rw [zBY,if_neg (by rw [hno];exact fT)]) (by rw [zBX,if_neg (by rw [hno];exact fT)];rfl)
 ·replace hg32:_=true:=hg32
  try rw [hg32]
  refine gF I I I (gF I I I (gF I I I (gF I I I (gQ (za5 I I I) (gM I (gF I I I (gF I I I (gF I I I (gF I I I (gQ (za5 I I I) (gM I (gF I I I (gF I I I (gF I I I (gF I I I (gF I I I (gF I I I (gF I I I (gF I I I (gF I I I (gF I I I (gF I I I (gF I I I (gF I I I (gQ (za5 I I I) (gN [3,4,5,6,7,59] I (zdg I (gS (gA I (gA I (gN [3,4,5,6,7] I (zaw ?_))))))))))))))))))))))))))))))))
  have hno:zym S V cs bs x=false:=by first|exact hno0|exact zzA hg32|exact zzB hg39|exact zzC hg45
  refine zyS ?_
  exact zbd (0,(none,0),(none,0),[]) 0 (zc2 I (zau I) (zau I)) (by rw [zBY,if_neg (by rw [hno];exact fT)]) (by rw [zBX,if_neg (by rw [hno];exact fT)];rfl)
end Go.Proofs.YteepmmghanbllaaGreatDoor
namespace Go.Fld
open Go Go.K Go.Stn Go.Pln
section
variable (S:List ShC) (V:List WlC) (cs:List ByteArray) (bs:List Bdr) (x:Anm)
def zBP:Int:=if zym S V cs bs x=true then 0 else 2
def wayI (i:Int) (back:Bool):Crg:=let p:=(zyj S V bs x).getD i.toNat default;if back=true then p.2 else p.1
structure AcrA where
 way:Int
 eff:Int
 err:Int
def zyv (i:Int) (back:Bool):AcrA:=
 if zym S V cs bs x=true then
  if inZ i 0 ((bs.length:Int) - 1)=true then
   if (wayI S V bs x i back).way < -1 then⟨0,0,8⟩ else⟨(wayI S V bs x i back).way,(wayI S V bs x i back).eff,0⟩
  else⟨0,0,3⟩
 else⟨0,0,2⟩
def outC (n:Nat) (c:Int):Bool:=!inZ c 0 ((n:Int) - 1)
def atE (l:List Int):Int:=if zym S V cs bs x=true then(if l.any (outC cs.length)=true then 3 else 0) else 2
end
section
variable {S:List ShC} {V:List WlC} {cs:List ByteArray} {bs:List Bdr} {x:Anm}
theorem zBA (h:zym S V cs bs x=true):zBP S V cs bs x=0:=if_pos h
theorem zBz (h:¬ zym S V cs bs x=true):zBP S V cs bs x=2:=if_neg h
theorem zz5:(zyj S V bs x).length=bs.length:=by unfold zyj;rw [lM,List.length_range]
theorem zBD (h:¬ zym S V cs bs x=true) (i:Int) (back:Bool):zyv S V cs bs x i back=⟨0,0,2⟩:=if_neg h
theorem zA2 (h:zym S V cs bs x=true) {i:Int} {back:Bool} (h2:(!inZ i 0 ((bs.length:Int) - 1))=true):zyv S V cs bs x i back=⟨0,0,3⟩:=by
 unfold zyv;rw [if_pos h,if_neg (by simpa using h2)]
theorem zzM (h:zym S V cs bs x=true) {i:Int} {back:Bool} (h2:(!inZ i 0 ((bs.length:Int) - 1))=false) (h3:(wayI S V bs x i back).way < -1):zyv S V cs bs x i back=⟨0,0,8⟩:=by
 unfold zyv;rw [if_pos h,if_pos (by simpa using h2),if_pos h3]
theorem zzN (h:zym S V cs bs x=true) {i:Int} {back:Bool} (h2:(!inZ i 0 ((bs.length:Int) - 1))=false) (h3:¬ (wayI S V bs x i back).way < -1):zyv S V cs bs x i back=⟨(wayI S V bs x i back).way,(wayI S V bs x i back).eff,0⟩:=by
 unfold zyv;rw [if_pos h,if_pos (by simpa using h2),if_neg h3]
theorem zDY {i:Int} {n:Nat} (h:(!inZ i 0 ((n:Int) - 1))=false):0≤i∧i<(n:Int):=by
 unfold inZ at h
 simp only [nF,aT,dT] at h
 omega
theorem zFG {l:List Int} (h:¬ zym S V cs bs x=true):atE S V cs bs x l=2:=if_neg h
theorem zDt {l:List Int} (h:zym S V cs bs x=true) (h2:l.any (outC cs.length)=true):atE S V cs bs x l=3:=by unfold atE;rw [if_pos h,if_pos h2]
theorem zFF {l:List Int} (h:zym S V cs bs x=true) (h2:l.any (outC cs.length)=false):atE S V cs bs x l=0:=by unfold atE;rw [if_pos h,if_neg (by rw [h2];exact fT)]
end
end Go.Fld
namespace Go.Proofs.YteepmmghanbllaaGreatDoor
open Go.K Go.Stn Go.Pln Go.Fld Go.RowKit
theorem zzk:FO Tryz.prog 144 3 3:=fK
theorem zDS:FO Tryz.prog 144 4 4:=fK
theorem zAg:SE Tryz.prog 125 148 10:=⟨Tryz.underlying125,by kernel_rfl⟩
theorem en49:En Tryz.prog 49:=eK Tryz.func49
theorem zzt (a:yO) (cap:Nat) (S:List ShC) (b:yO) (bcap:Nat) (V:List WlC) (ca:yO) (ccap:Nat) (cs:List ByteArray) (ba:yO) (bcp:Nat) (bs:List Bdr) (x:Anm) (w:World) (hl:yag w a S) (hs:zaP S.length) (hcS:S.length≤cap) (hlw:yah w b V) (hsw:zaP V.length) (hsh:yab S w) (hss:yac S) (hwo:yaa V w) (hsv:yae V) (hcp:yad V) (hkn:yaf V) (hc:yai w ca cs) (hcs:zaP cs.length) (hcap:cs.length≤ccap) (hbd:yaj w ba bs) (hbs:zaP bs.length) (hok:(zym S V cs bs x)=true) :
  Calls Tryz.prog 49 #[zzz3 a S cap b V bcap,zzz4 ca cs ccap ba bs bcp,zzz1 x] w (zcU (λ z:Nat×(Option Addr×Nat)×(Option Addr×Nat)×List (Nat×List (Bool×Bool))=>.tuple #[Z z.1,O 0]) (λ z=>zEw z ca ccap cs ba bcp bs (zyj S V bs x) (zzS S V bs x)) w):=by
 have h:=zC3 a cap S b bcap V ca ccap cs ba bcp bs x w hl hs hcS hlw hsw hsh hss hwo hsv hcp hkn hc hcs hcap hbd hbs
 rw [hok] at h
 exact h
theorem zz8 (a:yO) (cap:Nat) (S:List ShC) (b:yO) (bcap:Nat) (V:List WlC) (ca:yO) (ccap:Nat) (cs:List ByteArray) (ba:yO) (bcp:Nat) (bs:List Bdr) (x:Anm) (w:World) (hl:yag w a S) (hs:zaP S.length) (hcS:S.length≤cap) (hlw:yah w b V) (hsw:zaP V.length) (hsh:yab S w) (hss:yac S) (hwo:yaa V w) (hsv:yae V) (hcp:yad V) (hkn:yaf V) (hc:yai w ca cs) (hcs:zaP cs.length) (hcap:cs.length≤ccap) (hbd:yaj w ba bs) (hbs:zaP bs.length) (hno:¬ (zym S V cs bs x)=true) :
  Calls Tryz.prog 49 #[zzz3 a S cap b V bcap,zzz4 ca cs ccap ba bs bcp,zzz1 x] w (zcU (λ _:Nat×(Option Addr×Nat)×(Option Addr×Nat)×List (Nat×List (Bool×Bool))=>.tuple #[.pointer none,O 2]) (λ _=>Emp) w):=by
 have h:=zC3 a cap S b bcap V ca ccap cs ba bcp bs x w hl hs hcS hlw hsw hsh hss hwo hsv hcp hkn hc hcs hcap hbd hbs
 rw [show(zym S V cs bs x)=false from by simpa using hno] at h
 exact h
theorem zC6 (a:yO) (cap:Nat) (S:List ShC) (b:yO) (bcap:Nat) (V:List WlC) (ca:yO) (ccap:Nat) (cs:List ByteArray) (ba:yO) (bcp:Nat) (bs:List Bdr) (x:Anm) (i:Int) (back:Bool) (w:World) (hl:yag w a S) (hs:zaP S.length) (hcS:S.length≤cap) (hlw:yah w b V) (hsw:zaP V.length) (hsh:yab S w) (hss:yac S) (hwo:yaa V w) (hsv:yae V) (hcp:yad V) (hkn:yaf V) (hc:yai w ca cs) (hcs:zaP cs.length) (hcap:cs.length≤ccap) (hbd:yaj w ba bs) (hbs:zaP bs.length) (hok:(zym S V cs bs x)=true) :
  Calls Tryz.prog 24 #[zzz3 a S cap b V bcap,zzz4 ca cs ccap ba bs bcp,zzz1 x,O i,.bool back] w (Pure (.tuple #[O (zyv S V cs bs x i back).way,O (zyv S V cs bs x i back).eff,O (zyv S V cs bs x i back).err]) w):=by
 have hlw_:(zyj S V bs x).length=bs.length:=zz5
 refine zan (vs:=[_,_,_,_,_]) Tryz.func24 I I (bL I) (gS (zaG I I (za3 (vs:=[_,_]) I I) λ b5=>(zaG I I (za3 (vs:=[_,_]) I I) λ b6=>(zaG I I (za3 (vs:=[_,_,_,_,_]) I I) λ b7=>(gA I (gA I (gA I (gN [3,4,5,6,7,10,11,12] I (gS (gQ (zat 2 tf37 I I (vs:=[_,_]) I I) (gQ (zat 1 tf40 I I (vs:=[_,_]) I I) (gQ (zat 0 tf41 I I (vs:=[_,_,_,_,_]) I I) (zaG I I (zbm en49 I (λ w hw=>zzt _ _ S _ _ V _ _ cs _ _ bs x w (rH hl hw) hs hcS (rH hlw hw) hsw (λ z hz=>(rH (hsh z hz) hw)) hss (λ z hz=>(rH (hwo z hz) hw)) hsv hcp hkn (rH hc hw) hcs hcap (rH hbd hw) hbs hok)) λ p19=>(gM I (gQ (zaB I I) (gQ (zaB I I) (gA I (gA I (gN [3,4,6,10,11,12,13] I ?_)))))))))))))))))))
 obtain⟨lb,⟨wa,wc⟩,⟨fa,fc⟩,F⟩:=p19
 refine zz4 λ hF=>zbP ?_
 have hF:F.map (·.2)=(zzS S V bs x):=hF
 refine zac (gS (gM I (gQ (zcr I I) (gN [3,4,6,10,11,12,13,23] I (zd8 I (zaq (zac (gS (gM I (gQ (zab zz1 I) (gQ (zah 5 tf38 I I I) (gQ (zaV (Tryz.underlying38) I) (gQ (zfV I I) (gQ (zaJ en58 I (λ w hw=>zyR _ _ _ w)) (gQ (zbR I) (gN [3,4,10,11,12,13,31] I (zap I (λ hc31=>?_) (λ hc31=>?_))))))))))))))))))
 ·have hA:=zA2 hok (back:=back) hc31
  refine gS (gA I (gA I (gA I (gN [3,4,10,11,12,13] I (zaw (zay (zdh I (zau I) (zau I) (zau I)) ?_))))))
  rw [hA]
 ·obtain⟨i0,i1⟩:=zDY hc31
  refine zaq (gS (gM I (gQ (zbx I) (gQ (zab zyG I) (gQ (zah 0 zzV I I I) (gM I (gQ (zaE zAg I I (λ _ hw=>(zam zyl (hw.has (p:=1) I)))) (gQ (zzw 0 zz9 I I I (by decide) (λ w hw=>zaO (i:=i) (zam zyl (hw.has (p:=1) I)))) (gQ (zzG (f:=0) (vs:=[_,_,_,_,_]) zyD I (λ _ hw=>(zam zyl (hw.has (p:=1) I))) (by omega) (by omega) I) (zaG I I (zaL zyD (zs:=[_,_,_,_,_]) I) λ b14=>(zaA 0 zyD I I (vs:=[_,_,_,_,_]) I I I I I (gN [3,4,10,11,12,13,14] I (zac (gS (gM I (gN [3,10,11,12,13,14,40] I (zap I (λ hc40=>?_) (λ hc40=>?_))))))))))))))))))
  ·have hwy:(wayI S V bs x i back)=((zyj S V bs x).getD i.toNat default).2:=by unfold wayI;rw [hc40];rfl
   refine zaa (gM I (gQ (zbx I) (gQ (zab zyG I) (gQ (zah 1 zzV I I I) (gM I (gQ (zaE zAg I I (λ _ hw=>(zam zyl (hw.has (p:=2) I)))) (gQ (zzw 1 zz9 I I I (by decide) (λ w hw=>zaO (i:=i) (zam zyl (hw.has (p:=2) I)))) (gQ (zzG (f:=5) (vs:=[_,_,_,_,_]) zyD I (λ _ hw=>(zam zyl (hw.has (p:=2) I))) (by omega) (by omega) I) (zaA 0 zyD I I (vs:=[_,_,_,_,_]) I I I I I (gN [10,11,12,14] I (za2 (R':=Box b14 [O ((wayI S V bs x i back).frm),O ((wayI S V bs x i back).to),O ((wayI S V bs x i back).brd),O ((wayI S V bs x i back).way),O ((wayI S V bs x i back).eff)] 144) 0 I (λ B w hA=>by rw [hwy];exact hA) (zac (gS (gQ (zab zzk I) (gQ (zah 0 tf3 I I I) (gQ (zbw I I) (gN [10,11,12,14,51] I (zap I (λ hc51=>?_) (λ hc51=>?_)))))))))))))))))))
   ·have hA:=zzM hok hc31 (oT hc51)
    refine gS (gA I (gA I (gA I (gN [10,11,12,14] I (zaw (zay (zdh I (zau I) (zau I) (zau I)) ?_))))))
    rw [hA]
   ·have hA:=zzN hok hc31 (oD hc51)
    refine zaq (zac (gZ 7 (ph_y (zab zzk I) (ph_y (zah 0 tf3 I I I) (ph_y (zab zDS I) (ph_y (zah 0 tf3 I I I) (ph_y (zad I) (ph_y (zad I) (ph_y (zad I) (gN [10,11,12] I (zaw (zay (zdh I (zau I) (zau I) (zau I)) ?_))))))))))))
    rw [hA]
  ·have hwy:(wayI S V bs x i back)=((zyj S V bs x).getD i.toNat default).1:=by unfold wayI;rw [hc40];rfl
   refine za2 (R':=Box b14 [O ((wayI S V bs x i back).frm),O ((wayI S V bs x i back).to),O ((wayI S V bs x i back).brd),O ((wayI S V bs x i back).way),O ((wayI S V bs x i back).eff)] 144) 0 I (λ B w hA=>by rw [hwy];exact hA) (zaq (zac (gS (gQ (zab zzk I) (gQ (zah 0 tf3 I I I) (gQ (zbw I I) (gN [10,11,12,14,51] I (zap I (λ hc51=>?_) (λ hc51=>?_)))))))))
   ·have hA:=zzM hok hc31 (oT hc51)
    refine gS (gA I (gA I (gA I (gN [10,11,12,14] I (zaw (zay (zdh I (zau I) (zau I) (zau I)) ?_))))))
    rw [hA]
   ·have hA:=zzN hok hc31 (oD hc51)
    refine zaq (zac (gZ 7 (ph_y (zab zzk I) (ph_y (zah 0 tf3 I I I) (ph_y (zab zDS I) (ph_y (zah 0 tf3 I I I) (ph_y (zad I) (ph_y (zad I) (ph_y (zad I) (gN [10,11,12] I (zaw (zay (zdh I (zau I) (zau I) (zau I)) ?_))))))))))))
    rw [hA]
theorem zC5 (a:yO) (cap:Nat) (S:List ShC) (b:yO) (bcap:Nat) (V:List WlC) (ca:yO) (ccap:Nat) (cs:List ByteArray) (ba:yO) (bcp:Nat) (bs:List Bdr) (x:Anm) (i:Int) (back:Bool) (w:World) (hl:yag w a S) (hs:zaP S.length) (hcS:S.length≤cap) (hlw:yah w b V) (hsw:zaP V.length) (hsh:yab S w) (hss:yac S) (hwo:yaa V w) (hsv:yae V) (hcp:yad V) (hkn:yaf V) (hc:yai w ca cs) (hcs:zaP cs.length) (hcap:cs.length≤ccap) (hbd:yaj w ba bs) (hbs:zaP bs.length) (hno:¬ (zym S V cs bs x)=true) :
  Calls Tryz.prog 24 #[zzz3 a S cap b V bcap,zzz4 ca cs ccap ba bs bcp,zzz1 x,O i,.bool back] w (Pure (.tuple #[O (zyv S V cs bs x i back).way,O (zyv S V cs bs x i back).eff,O (zyv S V cs bs x i back).err]) w):=by
 refine zan (vs:=[_,_,_,_,_]) Tryz.func24 I I (bL I) (gS (zaG I I (za3 (vs:=[_,_]) I I) λ b5=>(zaG I I (za3 (vs:=[_,_]) I I) λ b6=>(zaG I I (za3 (vs:=[_,_,_,_,_]) I I) λ b7=>(gA I (gA I (gA I (gN [3,4,5,6,7,10,11,12] I (gS (gQ (zat 2 tf37 I I (vs:=[_,_]) I I) (gQ (zat 1 tf40 I I (vs:=[_,_]) I I) (gQ (zat 0 tf41 I I (vs:=[_,_,_,_,_]) I I) (zaG I I (zbm en49 I (λ w hw=>zz8 _ _ S _ _ V _ _ cs _ _ bs x w (rH hl hw) hs hcS (rH hlw hw) hsw (λ z hz=>(rH (hsh z hz) hw)) hss (λ z hz=>(rH (hwo z hz) hw)) hsv hcp hkn (rH hc hw) hcs hcap (rH hbd hw) hbs hno)) λ p19=>(gM I (gQ (zaB I I) (gQ (zaB I I) (gA I (gA I (gN [3,4,6,10,11,12,13] I (zac (gS (gM I (gQ (zcr I I) (gN [3,4,6,10,11,12,13,23] I (zdg I (gS (gM I (gA I (gA I (gA I (gN [3,4,6,10,11,12,13] I (zaw (zay (zdh I (zau I) (zau I) (zau I)) ?_)))))))))))))))))))))))))))))))))
 rw [zBD hno]
end Go.Proofs.YteepmmghanbllaaGreatDoor
namespace Go.Fld
open Go Go.K Go.Stn Go.Pln
def zyF (cell:Int) (c:Crg):Bool:=decide (c.frm=cell)&&decide (-1≤c.way)
def zAZ (cell:Int) (p:Crg×Crg):List Crg:=(if zyF cell p.1=true then [p.1] else [])++(if zyF cell p.2=true then [p.2] else [])
def outL (W:List (Crg×Crg)) (cell:Int):List Crg:=W.flatMap (zAZ cell)
abbrev zB9 (c:Crg):List Value:=[.agg (zzK c).toArray]
def cntP (W:List (Crg×Crg)) (cell:Int) (i:Nat) (k:Int):Nat:=
 ((W.take i).flatMap (zAZ cell)).length+((if k≤0 then 0 else if zyF cell (W.getD i default).1=true then 1 else 0)+(if k≤1 then 0 else if zyF cell (W.getD i default).2=true then 1 else 0))
section
variable {W:List (Crg×Crg)} {cell:Int} {i:Nat}
theorem zBH:cntP W cell i 0=((W.take i).flatMap (zAZ cell)).length:=by unfold cntP;rw [if_pos (by decide),if_pos (by decide)];rfl
theorem zDG:cntP W cell i 1=cntP W cell i 0+if zyF cell (W.getD i default).1=true then 1 else 0:=by
 rw [zBH];unfold cntP;rw [if_neg (show ¬ (1:Int)≤0 by decide),if_pos (show(1:Int)≤1 by decide)];omega
theorem zFW:cntP W cell i 2=cntP W cell i 1+if zyF cell (W.getD i default).2=true then 1 else 0:=by
 rw [zDG,zBH];unfold cntP;rw [if_neg (show ¬ (2:Int)≤0 by decide),if_neg (show ¬ (2:Int)≤1 by decide)];omega
theorem zAT (h:i<W.length):W.take (i+1)=W.take i++[W.getD i default]:=by
 rw [List.take_add_one,eG h,gE,eG h];rfl
theorem zHa (h:i<W.length):cntP W cell (i+1) 0=cntP W cell i 2:=by
 rw [zFW,zDG,zBH,zBH,zAT h,List.flatMap_append,lA]
 simp only [List.flatMap_cons,List.flatMap_nil,List.append_nil]
 unfold zAZ
 rw [lA]
 split <;> split <;> simp
theorem zFX (h:W.length≤i):cntP W cell i 0=(outL W cell).length:=by rw [zBH,List.take_of_length_le h];rfl
theorem zA4 (h:zyF cell (W.getD i default).1=false):cntP W cell i 1=cntP W cell i 0:=by rw [zDG,if_neg (by rw [h];exact fT)];rfl
theorem zDH (h:zyF cell (W.getD i default).1=true):cntP W cell i 1=cntP W cell i 0+1:=by rw [zDG,if_pos h]
theorem zA5 (h:zyF cell (W.getD i default).2=false):cntP W cell i 2=cntP W cell i 1:=by rw [zFW,if_neg (by rw [h];exact fT)];rfl
theorem zDI (h:zyF cell (W.getD i default).2=true):cntP W cell i 2=cntP W cell i 1+1:=by rw [zFW,if_pos h]
theorem zBS (h:i<W.length):outL W cell=(W.take i).flatMap (zAZ cell)++(zAZ cell (W.getD i default)++(W.drop (i+1)).flatMap (zAZ cell)):=by
 unfold outL
 conv=>lhs;rw [←List.take_append_drop (i+1) W,List.flatMap_append,zAT h,List.flatMap_append]
 simp [List.flatMap_cons]
theorem zE2 (h:i<W.length) (hc:zyF cell (W.getD i default).1=true):((outL W cell).map zB9)[cntP W cell i 0]?=some (zB9 (W.getD i default).1):=by
 rw [List.getElem?_map,zBH,zBS h,List.getElem?_append_right (Nat.le_refl _),Nat.sub_self]
 unfold zAZ
 rw [if_pos hc];rfl
theorem zE3 (h:i<W.length) (hc:zyF cell (W.getD i default).2=true):((outL W cell).map zB9)[cntP W cell i 1]?=some (zB9 (W.getD i default).2):=by
 rw [List.getElem?_map,zDG,zBH,zBS h,List.getElem?_append_right (by omega),Nat.add_sub_cancel_left]
 unfold zAZ
 rw [if_pos hc]
 by_cases h1:zyF cell (W.getD i default).1=true
 ·rw [if_pos h1,if_pos h1];rfl
 ·rw [if_neg h1,if_neg h1];rfl
theorem zGw {c:Crg} (h:c∈outL W cell):c.frm=cell∧-1≤c.way∧∃ p∈W,c=p.1∨c=p.2:=by
 unfold outL at h
 obtain⟨p,hp,hc⟩:=List.mem_flatMap.1 h
 unfold zAZ at hc
 rcases List.mem_append.1 hc with hc|hc
 ·split at hc
  ·rename_i h1
   rw [List.mem_singleton.1 hc]
   simp only [zyF,aT,dT] at h1
   exact⟨h1.1,h1.2,p,hp,.inl I⟩
  ·cases hc
 ·split at hc
  ·rename_i h1
   rw [List.mem_singleton.1 hc]
   simp only [zyF,aT,dT] at h1
   exact⟨h1.1,h1.2,p,hp,.inr I⟩
  ·cases hc
end
def unseen (s:List Bool):Nat:=s.countP (λ b=>!b)
theorem zy4 {s:List Bool} {i:Nat} (h:i<s.length) (h2:s.getD i false=false):unseen (s.set i true)+1=unseen s:=by
 unfold unseen
 induction s generalizing i with
 | nil=>simp at h
 | cons b s ih=>
  cases i with
  | zero=>
   have hb:b=false:=by simpa using h2
   subst hb
   simp
  | succ i=>
   have h3:=ih (i:=i) (by simpa using h) (by simpa using h2)
   rw [List.set_cons_succ,List.countP_cons,List.countP_cons]
   omega
def zzn (f:List Bool→Int→List Bool) (may:Crg→Bool) (s:List Bool) (c:Crg):List Bool:=if (!s.getD c.to.toNat false&&may c)=true then f s c.to else s
def zzv (W:List (Crg×Crg)) (may:Crg→Bool):Nat→List Bool→Int→List Bool
 | 0,s,_=>s
 | n+1,s,cell=>(outL W cell).foldl (zzn (zzv W may n) may) (s.set cell.toNat true)
structure More (s t:List Bool):Prop where
 len:t.length=s.length
 sub:∀ i,s.getD i false=true→t.getD i false=true
theorem More.rfl {s:List Bool}:More s s:=⟨Eq.refl _,λ _ h=>h⟩
theorem More.trans {a b c:List Bool} (h:More a b) (k:More b c):More a c:=⟨k.len.trans h.len,λ i hi=>k.sub i (h.sub i hi)⟩
theorem More.set {s:List Bool} {i:Nat}:More s (s.set i true):=⟨List.length_set ..,λ j hj=>by
 rw [gE] at hj ⊢
 rw [List.getElem?_set]
 split
 ·rename_i h
  subst h
  split
  ·rfl
  ·rename_i h
   rw [List.getElem?_eq_none (by omega)] at hj;cases hj
 ·exact hj⟩
theorem More.unseen {s t:List Bool} (h:More s t):unseen t≤unseen s:=by
 obtain⟨h1,h2⟩:=h
 unfold Fld.unseen
 induction s generalizing t with
 | nil=>rw [lN] at h1;rw [List.length_eq_zero_iff.1 h1];exact Nat.le_refl _
 | cons b s ih=>
  cases t with
  | nil=>simp at h1
  | cons c t=>
   have h3:=ih (t:=t) (by simpa using h1) (λ i hi=>by simpa using h2 (i+1) (by simpa using hi))
   have h4:=h2 0
   rw [List.countP_cons,List.countP_cons]
   cases b <;> cases c <;> simp at h4 ⊢ <;> omega
theorem zAo (W:List (Crg×Crg)) (may:Crg→Bool):∀ n s cell,More s (zzv W may n s cell)
 | 0,_,_=>More.rfl
 | n+1,s,cell=>by
  have key:∀ (l:List Crg) (t:List Bool),More t (l.foldl (zzn (zzv W may n) may) t):=by
   intro l
   induction l with
   | nil=>intro t;exact More.rfl
   | cons c l ih=>
    intro t
    refine More.trans ?_ (ih _)
    unfold zzn
    split
    ·exact zAo W may n t c.to
    ·exact More.rfl
  exact More.trans More.set (key _ _)
theorem zBL (W:List (Crg×Crg)) (may:Crg→Bool) (n:Nat):∀ (l:List Crg) (t:List Bool),More t (l.foldl (zzn (zzv W may n) may) t)
 | [],_=>More.rfl
 | c :: l,t=>by
  refine More.trans ?_ (zBL W may n l _)
  unfold zzn
  split
  ·exact zAo W may n t c.to
  ·exact More.rfl
theorem zBM {α β:Type} [Inhabited β] {f:α→β→α} {l:List β} {n:Nat} {a:α} (h:n<l.length):(l.take (n+1)).foldl f a=f ((l.take n).foldl f a) (l.getD n default):=by
 rw [List.take_add_one,eG h,List.foldl_append,gE,eG h];rfl
def zze (W:List (Crg×Crg)) (may:Crg→Bool) (cell:Int):List Bool:=zzv W may 40 (List.replicate 40 false) cell
theorem zy3 {W:List (Crg×Crg)} {may:Crg→Bool} {cell:Int}:(zze W may cell).length=40:=by
 unfold zze
 rw [(zAo W may 40 _ cell).len,List.length_replicate]
def zAs (l:List Bool) (n:Nat):List Int:=((List.range n).filter λ i=>l.getD i false).map λ(i:Nat)=>(i:Int)
theorem zEr {l:List Bool} {n:Nat} (h:l.getD n false=true):zAs l (n+1)=zAs l n++[(n:Int)]:=by
 unfold zAs
 rw [List.range_succ,List.filter_append,List.map_append,List.filter_cons_of_pos (p:=λ i=>l.getD i false) h];rfl
theorem zFf {l:List Bool} {n:Nat} (h:l.getD n false=false):zAs l (n+1)=zAs l n:=by
 unfold zAs
 rw [List.range_succ,List.filter_append,List.map_append,List.filter_cons_of_neg (p:=λ i=>l.getD i false) (by rw [h];exact fT)]
 simp
theorem zEq {l:List Bool} {n:Nat}:(zAs l n).length≤n:=by
 unfold zAs
 rw [lM]
 exact Nat.le_trans (List.length_filter_le _ _) (Nat.le_of_eq List.length_range)
inductive Rch (W:List (Crg×Crg)) (may:Crg→Bool) (cell:Int):Int→Prop
 | here:Rch W may cell cell
 | far {c:Crg}:Rch W may cell c.frm→c∈outL W c.frm→may c=true→Rch W may cell c.to
theorem Rch.trans {W:List (Crg×Crg)} {may:Crg→Bool} {a b c:Int} (h:Rch W may a b) (k:Rch W may b c):Rch W may a c:=by
 induction k with
 | here=>exact h
 | far _ h2 h3 ih=>exact .far ih h2 h3
def ToOk (W:List (Crg×Crg)):Prop:=∀ p∈W,(0≤p.1.to∧p.1.to<40)∧0≤p.2.to∧p.2.to<40
theorem zJH {W:List (Crg×Crg)} {cell:Int} {c:Crg} (h:ToOk W) (hm:c∈outL W cell):0≤c.to∧c.to<40:=by
 obtain⟨_,_,p,hp,hc⟩:=zGw hm
 have:=h p hp
 rcases hc with e|e <;> rw [e] <;> omega
structure Wide (W:List (Crg×Crg)) (may:Crg→Bool) (s t:List Bool):Prop where
 more:More s t
 clo:∀ x:Nat,t.getD x false=true→s.getD x false=false→∀ c∈outL W x,may c=true→t.getD c.to.toNat false=true
theorem Wide.rfl {W:List (Crg×Crg)} {may:Crg→Bool} {s:List Bool}:Wide W may s s:=⟨More.rfl,λ x h k=>by rw [h] at k;cases k⟩
theorem Wide.trans {W:List (Crg×Crg)} {may:Crg→Bool} {a b c:List Bool} (h:Wide W may a b) (k:Wide W may b c):Wide W may a c:=by
 refine⟨h.more.trans k.more,λ x hx ha d hd hm=>?_⟩
 cases hb:b.getD x false with
 | true=>exact k.more.sub _ (h.clo x hb ha d hd hm)
 | false=>exact k.clo x hx hb d hd hm
theorem zEi {s:List Bool} {i j:Nat} (h:i<s.length):(s.set i true).getD j false=if j=i then true else s.getD j false:=by
 rw [gE,List.getElem?_set,gE]
 by_cases hj:i=j
 ·subst hj;rw [if_pos I,if_pos h,if_pos I];simp
 ·rw [if_neg hj,if_neg (λ h=>hj h.symm)]
theorem zIx {W:List (Crg×Crg)} {may:Crg→Bool} (hto:ToOk W):∀ (n:Nat) (s:List Bool) (cell:Int),unseen s≤n→s.length=40→0≤cell→cell<40→s.getD cell.toNat false=false →
  Wide W may s (zzv W may n s cell)∧(zzv W may n s cell).getD cell.toNat false=true∧∀ x:Nat,(zzv W may n s cell).getD x false=true→s.getD x false=false→Rch W may cell x
 | 0,s,cell,hu,hl,h0,h1,hs=>by have:=zy4 (s:=s) (i:=cell.toNat) (by omega) hs;omega
 | n+1,s,cell,hu,hl,h0,h1,hs=>by
  have hu1:=zy4 (s:=s) (i:=cell.toNat) (by omega) hs
  have key:∀ (l:List Crg),(∀ c∈l,c∈outL W cell)→∀ t:List Bool,unseen t≤n→t.length=40 →
    Wide W may t (l.foldl (zzn (zzv W may n) may) t)∧(∀ c∈l,may c=true→(l.foldl (zzn (zzv W may n) may) t).getD c.to.toNat false=true)∧∀ x:Nat,(l.foldl (zzn (zzv W may n) may) t).getD x false=true→t.getD x false=false→Rch W may cell x:=by
   intro l
   induction l with
   | nil=>exact λ _ t _ _=>⟨Wide.rfl,λ c hc=>(by cases hc),λ x h k=>by rw [List.foldl_nil,k] at h;cases h⟩
   | cons c l ih=>
    intro hin t htu htl
    have hcm:=hin c (mS ..)
    have hcto:=zJH hto hcm
    have hstep:Wide W may t (zzn (zzv W may n) may t c)∧(may c=true→(zzn (zzv W may n) may t c).getD c.to.toNat false=true)∧∀ x:Nat,(zzn (zzv W may n) may t c).getD x false=true→t.getD x false=false→Rch W may cell x:=by
     unfold zzn
     split
     ·rename_i hif
      simp only [aT,nT] at hif
      obtain⟨a1,a2,a3⟩:=zIx hto n t c.to htu htl hcto.1 hcto.2 hif.1
      refine⟨a1,λ _=>a2,λ x hx hs=>?_⟩
      have hfrm:=(zGw hcm).1
      refine Rch.trans (Rch.far (c:=c) ?_ ?_ hif.2) (a3 x hx hs)
      ·rw [hfrm];exact .here
      ·rw [hfrm];exact hcm
     ·rename_i hif
      refine⟨Wide.rfl,λ hm=>?_,λ x h k=>by rw [k] at h;cases h⟩
      cases hc:t.getD c.to.toNat false with
      | true=>rfl
      | false=>exact absurd (by rw [hc,hm];rfl) hif
    obtain⟨b1,b2,b3⟩:=hstep
    obtain⟨c1,c2,c3⟩:=ih (λ d hd=>hin d (mM _ hd)) (zzn (zzv W may n) may t c) (Nat.le_trans b1.more.unseen htu) (b1.more.len.trans htl)
    rw [List.foldl_cons]
    refine⟨b1.trans c1,λ d hd hm=>?_,λ x hx hs=>?_⟩
    ·rcases List.mem_cons.1 hd with rfl|hd
     ·exact c1.more.sub _ (b2 hm)
     ·exact c2 d hd hm
    ·cases hb:(zzn (zzv W may n) may t c).getD x false with
     | true=>exact b3 x hb hs
     | false=>exact c3 x hx hb
  obtain⟨k1,k2,k3⟩:=key (outL W cell) (λ _ h=>h) (s.set cell.toNat true) (by omega) (by rw [List.length_set];exact hl)
  rw [zzv]
  have hsg:=λ j=>zEi (s:=s) (i:=cell.toNat) (j:=j) (by omega)
  refine⟨⟨More.trans More.set k1.more,λ x hx hsx c hc hm=>?_⟩,k1.more.sub _ (by rw [hsg,if_pos I]),λ x hx hsx=>?_⟩
  ·by_cases hxc:x=cell.toNat
   ·subst hxc
    exact k2 c (by rwa [tN h0] at hc) hm
   ·exact k1.clo x hx (by rw [hsg,if_neg hxc];exact hsx) c hc hm
  ·by_cases hxc:x=cell.toNat
   ·subst hxc;rw [tN h0];exact .here
   ·exact k3 x hx (by rw [hsg,if_neg hxc];exact hsx)
theorem zAE {x:Nat}:(List.replicate 40 false).getD x false=false:=by
 rw [gE,List.getElem?_replicate]
 split <;> rfl
theorem zAn:unseen (List.replicate 40 false)=40:=by decide
theorem zIF {W:List (Crg×Crg)} {may:Crg→Bool} (hto:ToOk W) {cell:Int} (h0:0≤cell) (h1:cell<40) {x:Nat}:(zze W may cell).getD x false=true↔Rch W may cell x:=by
 obtain⟨a1,a2,a3⟩:=zIx (may:=may) hto 40 (List.replicate 40 false) cell (by rw [zAn];exact Nat.le_refl _) (List.length_replicate ..) h0 h1 zAE
 refine⟨λ h=>a3 x h zAE,λ h=>?_⟩
 have key:∀ z:Int,Rch W may cell z→(0≤z∧z<40)∧(zze W may cell).getD z.toNat false=true:=by
  intro z hz
  induction hz with
  | here=>exact⟨⟨h0,h1⟩,a2⟩
  | far _ hc hm ih=>
   obtain⟨i1,i2⟩:=ih
   refine⟨zJH hto hc,a1.clo _ i2 zAE _ ?_ hm⟩
   rw [tN i1.1];exact hc
 have:=(key x h).2
 simpa using this
abbrev zyQ (z:Int×Int):List Value:=[O z.1,O z.2]
theorem zyJ:Enc 2 zyQ:=⟨λ _=>rfl,λ _=>rfl,by decide⟩
section
variable (S:List ShC) (V:List WlC) (bs:List Bdr) (x:Anm)
def opB (b:Bdr):List Opn:=(zaN S V b.wall).s.opens
def smT (b:Bdr) (n:Nat) (want:Bool):Bool:=decide (((opB S V b).getD n default).kind=1)&&(((zBN S V x b ((opB S V b).getD n default)).1&&(zBN S V x b ((opB S V b).getD n default)).2) == want)
def smB (b:Bdr) (i:Nat) (want:Bool):Nat→List (Int×Int)
 | 0=>[]
 | n+1=>smB b i want n++if smT S V x b n want=true then [((i:Int),(n:Int))] else []
def smN (want:Bool):Nat→List (Int×Int)
 | 0=>[]
 | i+1=>smN want i++smB S V x (bs.getD i default) i want (opB S V (bs.getD i default)).length
end
section
variable {S:List ShC} {V:List WlC} {bs:List Bdr} {x:Anm} {b:Bdr} {n i:Nat} {want:Bool}
theorem zAh (h:smT S V x b n want=true):smB S V x b i want (n+1)=smB S V x b i want n++[((i:Int),(n:Int))]:=by rw [smB,if_pos h]
theorem zBc (h:smT S V x b n want=false):smB S V x b i want (n+1)=smB S V x b i want n:=by rw [smB,if_neg (by rw [h];exact fT),List.append_nil]
theorem zEM {w:World} {F:List (Nat×List (Bool×Bool))} (h:Has w (Go.K.Rows rowM F)) (hF:F.map (·.2)=zzS S V bs x) (hi:i<bs.length):Has w (MapZ ((F.map (·.1)).getD i default) (frZ (zyu S V x (bs.getD i default)))):=by
 have hl:F.length=bs.length:=by
  have:=congrArg List.length hF
  unfold zzS at this
  rwa [lM,lM,List.length_range] at this
 have hm:=zbV h (List.getElem_mem (by omega:i<F.length))
 have h1:(F.map (·.1)).getD i default=(F[i]'(by omega)).1:=by
  rw [gE,List.getElem?_map,eG (by omega:i<F.length)];rfl
 have h2:zyu S V x (bs.getD i default)=(F[i]'(by omega)).2:=by
  have h3:(F.map (·.2))[i]?=(zzS S V bs x)[i]?:=by rw [hF]
  unfold zzS at h3
  rw [List.getElem?_map,List.getElem?_map,eG (by omega:i<F.length),List.getElem?_range hi] at h3
  exact(Option.some.inj h3).symm
 rw [h1,h2];exact hm
theorem zGi {l:List (Bool×Bool)} (h:n<l.length):(zget (frZ l) n).getD (.agg #[.bool false,.bool false])=.agg #[.bool (l.getD n (false,false)).1,.bool (l.getD n (false,false)).2]:=by
 unfold frZ
 rw [zCq,if_pos h];rfl
end
end Go.Fld
namespace Go.Proofs.YteepmmghanbllaaGreatDoor
open Go.K Go.Stn Go.Pln Go.Fld Go.RowKit
theorem zmF:TF Tryz.prog 124 false 1 (.map none):=tK
theorem zHX:SE Tryz.prog 126 124 1:=⟨Tryz.underlying126,by kernel_rfl⟩
theorem af49:AF Tryz.prog 49 130 2 16 [O 0,O 0]:=⟨Tryz.underlying49,by kernel_rfl,rfl⟩
theorem zB3 (x0 x1:Bool) (w:World):(Instr.build 123 #[(0,.bool x0),(1,.bool x1)]).run Tryz.prog w=.ok (.agg #[.bool x0,.bool x1]) w:=by kernel_rfl
theorem zAA (x0 x1:Int) (w:World):(Instr.build 130 #[(0,O x0),(1,O x1)]).run Tryz.prog w=.ok (.agg #[O x0,O x1]) w:=by kernel_rfl
theorem zFq (x0_0 x0_1:Int) (w:World):(Instr.buildSlice 49 1 #[(0,.agg #[O x0_0,O x0_1])]).run Tryz.prog w=.ok (C (some ⟨w.heap.size,0,none⟩) 1 1) (w.alloc (.cells (([⟨x0_0,x0_1⟩]:List (Int×Int)).flatMap zyQ).toArray 130)):=by kernel_rfl
theorem zHs {c:Cx} {ds:List Deferred} {H:List Res} {T:List (Nat×Value)} {d:Option Nat} {ty:TypeId} {ps:String} {af:Array Edge} {g:Option (Nat×Bool)} {x y:Operand} {t':TypeId} {a b:Bool}
  (hx:evo T x=some (.agg #[.bool a,.bool b])) (hy:evo T y=some (.agg #[.bool true,.bool true])) (hP:c.P=Tryz.prog:=by rfl):Y c ds H T ⟨d,.binOp .eql 123 x y t',ty,ps,af,g⟩ (.bool ((a&&b) == true)):=
 zcz λ e w ha _=>by
  simp only [execOp,ha.eval hx,ha.eval hy]
  rw [hP]
  cases a <;> cases b <;> kernel_rfl
theorem eq_t:∀ z:Bool,(z == true)=true→(z == false)=false:=by decide
theorem eq_f:∀ z:Bool,(z == true)=false→(z == false)=true:=by decide
theorem zHd {S:List ShC} {V:List WlC} {bs:List Bdr} {x:Anm} {F:List (Nat×List (Bool×Bool))} (hF:F.map (·.2)=zzS S V bs x):(F.map (·.1)).length=bs.length:=by
 have:=congrArg List.length hF
 unfold zzS at this
 rw [lM,lM,List.length_range] at this
 rw [lM];exact this
theorem zHn {S:List ShC} {V:List WlC} {bs:List Bdr} {x:Anm} {i n:Int} {want:Bool} (h:0≤i) (hn:n.toNat=(opB S V (bs.getD i.toNat default)).length):smN S V bs x want (i+1).toNat=smN S V bs x want i.toNat++smB S V x (bs.getD i.toNat default) i.toNat want n.toNat:=by
 rw [show(i+1).toNat=i.toNat+1 from by omega,smN,hn]
theorem zEl (a:yO) (cap:Nat) (S:List ShC) (b:yO) (bcap:Nat) (V:List WlC) (ca:yO) (ccap:Nat) (cs:List ByteArray) (ba:yO) (bcp:Nat) (bs:List Bdr) (x:Anm) (w:World) (hl:yag w a S) (hs:zaP S.length) (hcS:S.length≤cap) (hlw:yah w b V) (hsw:zaP V.length) (hsh:yab S w) (hss:yac S) (hwo:yaa V w) (hsv:yae V) (hcp:yad V) (hkn:yaf V) (hc:yai w ca cs) (hcs:zaP cs.length) (hcap:cs.length≤ccap) (hbd:yaj w ba bs) (hbs:zaP bs.length) (hok:(zym S V cs bs x)=true) :
  Calls Tryz.prog 16 #[zzz3 a S cap b V bcap,zzz4 ca cs ccap ba bs bcp,zzz1 x] w (zcU (λ z:(Option Addr×Nat)×(Option Addr×Nat)=>.tuple #[C z.1.1 (smN S V bs x true bs.length).length z.1.2,C z.2.1 (smN S V bs x false bs.length).length z.2.2,O 0]) (λ z=>SepR [Row z.1.1 2 z.1.2 130 zyQ (smN S V bs x true bs.length),Row z.2.1 2 z.2.2 130 zyQ (smN S V bs x false bs.length)]) w):=by
 obtain⟨_,_,hbn,_,_,hbo⟩:=zzD hok
 refine zan (vs:=[_,_,_]) Tryz.func16 I I (bL I) (gS (zaG I I (za3 (vs:=[_,_]) I I) λ b3=>(zaG I I (za3 (vs:=[_,_]) I I) λ b4=>(zaG I I (za3 (vs:=[_,_,_,_,_]) I I) λ b5=>(gA I (gA I (gA I (gN [3,4,5,6,7,8] I (gS (gQ (zat 2 tf37 I I (vs:=[_,_]) I I) (gQ (zat 1 tf40 I I (vs:=[_,_]) I I) (gQ (zat 0 tf41 I I (vs:=[_,_,_,_,_]) I I) (zaG I I (zbm en49 I (λ w hw=>zzt _ _ S _ _ V _ _ cs _ _ bs x w (rH hl hw) hs hcS (rH hlw hw) hsw (λ z hz=>(rH (hsh z hz) hw)) hss (λ z hz=>(rH (hwo z hz) hw)) hsv hcp hkn (rH hc hw) hcs hcap (rH hbd hw) hbs hok)) λ p21=>(gM I (gQ (zaB I I) (gQ (zaB I I) (gA I (gA I (gN [3,4,6,7,8,9] I ?_)))))))))))))))))))
 obtain⟨lb,⟨wa,wc⟩,⟨fa,fc⟩,F⟩:=p21
 refine zz4 λ hF=>zbP ?_
 have hF:F.map (·.2)=(zzS S V bs x):=hF
 refine zac (gS (gM I (gQ (zcr I I) (gN [3,4,6,7,8,9,25] I (zd8 I (zaq (zac (gS (gQ (zab zz1 I) (gQ (zah 5 tf38 I I I) (gQ (zaV (Tryz.underlying38) I) (gM I (gN [3,6,7,8,9,28,29,30] I (zas (zbB 130 zyQ 2 (zbB 130 zyQ 2 ?_))))))))))))))))
 refine zbf (X:=Int×(Option Addr×Nat×List (Int×Int))×(Option Addr×Nat×List (Int×Int))) (λ⟨i,⟨ra,rc,N⟩,⟨ea,ec,M⟩⟩=>[(3,Z b3),(6,C ra N.length rc),(7,C ea M.length ec),(8,O 0),(9,Z lb),(28,C ba bs.length bcp),(29,O (bs.length:Int)),(30,O i)]) (λ⟨i,⟨ra,rc,N⟩,⟨ea,ec,M⟩⟩=>[Row ea 2 ec 130 zyQ M,Row ra 2 rc 130 zyQ N,Box lb [C ca cs.length ccap,C ba bs.length bcp,C wa (zyj S V bs x).length wc,C fa (F.map (·.1)).length fc] 128,Row wa 10 wc 148 zyw (zyj S V bs x),Row fa 1 fc 124 zy6 (F.map (·.1)),Go.K.Rows rowM F,Box b5 (zzz2 x) 41,Box b4 (zzz6 ca cs ccap ba bs bcp) 40,Box b3 (zzz5 a S cap b V bcap) 37]) (λ⟨i,⟨ra,rc,N⟩,⟨ea,ec,M⟩⟩=>((0≤i∧i≤bs.length)∧(N.length≤i.toNat*100∧M.length≤i.toNat*100)∧N=smN S V bs x true i.toNat∧M=smN S V bs x false i.toNat)) (λ⟨i,⟨ra,rc,N⟩,⟨ea,ec,M⟩⟩=>(bs.length - i).toNat) (0,(none,0,[]),(none,0,[])) (sB I) I ?_ ?_
 ·exact⟨⟨by omega,by omega⟩,⟨by simp,by simp⟩,rfl,rfl⟩
 ·rintro ⟨i,⟨ra,rc,N⟩,⟨ea,ec,M⟩⟩ hI
  obtain⟨⟨g0,g1⟩,⟨g2,g3⟩,g4,g5⟩:=hI
  refine gS (gQ (zbw I I) (gN [3,6,7,8,9,28,29,30,31] I (zac (zap I (λ hc31=>?_) (λ hc31=>?_)))))
  ·have hc31:=oT hc31
   have hfm:=zHd hF
   have hbrd:=hbo i.toNat (by omega)
   obtain⟨hG1,hG2⟩:=zBh hbrd
   have hfl:(zyu S V x (bs.getD i.toNat default)).length=(zaN S V (bs.getD i.toNat default).wall).s.opens.length:=lM ..
   have hon:=hG1.wf.num
   obtain⟨hsvw,hsss⟩:=zxT (n:=(bs.getD i.toNat default).wall) hsv hss
   refine zaq (zac (zas (gS (gM I (gQ (zaE se38 I I (λ _=>rH hbd)) (gQ (zbv (vs:=[_,_,_,_,_,_]) tf64 I (λ _=>rH hbd) (by omega) (by omega) I) (zaG I I (zaL tf64 (zs:=[_,_,_,_,_,_]) I) λ b11=>(gA I (zaA 0 tf64 I I (vs:=[_,_,_,_,_,_]) I I I I I (gN [3,6,7,8,9,10,11,28,29,30] I (gS (gQ (zat 9 tf37 I I (vs:=[_,_]) I I) (gQ (zab zFs I) (gQ (zah 0 tf9 I I I) (zaG I I (zbm en50 I (λ w hw=>zyh _ _ S _ _ V (bs.getD i.toNat default).wall w (rH hl hw) hs hcS (rH hlw hw) hsw (λ z hz=>(rH (hsh z hz) hw)) hss (λ z hz=>(rH (hwo z hz) hw)) hsv hcp hkn)) λ p39=>zbP (gM I (gQ (zaB I I) (gQ (zaB I I) (gQ (zaB I I) (zaG I I (zaL zyz (zs:=[_,_,_,_]) I) λ b12=>(zaG I I (zaL zyq (zs:=[_,_,_,_,_,_,_,_,_,_,_,_,_,_,_,_,_,_,_,_]) I) λ b13=>(zaA 1 zyz I I (vs:=[_,_,_,_]) I I I I I (zbz 0 zyq I I (vs:=[_,_,_,_,_,_,_,_,_,_,_,_,_,_,_,_,_,_,_,_]) I I I I I (gA I (gN [3,6,7,8,9,10,12,28,29,30] I (gS (gQ (zab zyL I) (gQ (zah 1 zAi I I I) ?_))))))))))))))))))))))))))))
   refine gQ (zaV (Tryz.underlying114) I) (gM I (gN [3,6,7,8,9,10,28,29,30,44,45,46] I (zas ?_)))
   refine zbf (X:=Int×(Option Addr×Nat×List (Int×Int))×(Option Addr×Nat×List (Int×Int))) (λ⟨n,⟨qa,qc,Q⟩,⟨ta,tc,T⟩⟩=>[(3,Z b3),(6,C qa Q.length qc),(7,C ta T.length tc),(8,O 0),(9,Z lb),(10,O i),(28,C ba bs.length bcp),(29,O (bs.length:Int)),(30,O i),(44,C p39.1.1 (zaN S V (bs.getD i.toNat default).wall).s.opens.length p39.1.2),(45,O ((zaN S V (bs.getD i.toNat default).wall).s.opens.length:Int)),(46,O n)]) (λ⟨n,⟨qa,qc,Q⟩,⟨ta,tc,T⟩⟩=>[Box b13 (sV ((zar S V (bs.getD i.toNat default).wall).s) p39.2.1 p39.2.2) 118,Box b12 (wV ((zaN S V (bs.getD i.toNat default).wall).s) p39.1.1 p39.1.2) 116,Row p39.1.1 5 p39.1.2 122 zba (zaN S V (bs.getD i.toNat default).wall).s.opens,Row p39.2.1 1 p39.2.2 3 D (zar S V (bs.getD i.toNat default).wall).s.heights,Box b11 [O (bs.getD i.toNat default).a,O (bs.getD i.toNat default).b,.string (bs.getD i.toNat default).wall,O (bs.getD i.toNat default).gA,O (bs.getD i.toNat default).gB,.bool (bs.getD i.toNat default).shut] 64,Row ta 2 tc 130 zyQ T,Row qa 2 qc 130 zyQ Q,Box lb [C ca cs.length ccap,C ba bs.length bcp,C wa (zyj S V bs x).length wc,C fa (F.map (·.1)).length fc] 128,Row wa 10 wc 148 zyw (zyj S V bs x),Row fa 1 fc 124 zy6 (F.map (·.1)),Go.K.Rows rowM F,Box b5 (zzz2 x) 41,Box b4 (zzz6 ca cs ccap ba bs bcp) 40,Box b3 (zzz5 a S cap b V bcap) 37]) (λ⟨n,⟨qa,qc,Q⟩,⟨ta,tc,T⟩⟩=>((0≤n∧n≤(zaN S V (bs.getD i.toNat default).wall).s.opens.length)∧(Q.length≤i.toNat*100+n.toNat∧T.length≤i.toNat*100+n.toNat)∧Q=(smN S V bs x true i.toNat++smB S V x (bs.getD i.toNat default) i.toNat true n.toNat)∧T=(smN S V bs x false i.toNat++smB S V x (bs.getD i.toNat default) i.toNat false n.toNat))) (λ⟨n,⟨qa,qc,Q⟩,⟨ta,tc,T⟩⟩=>((zaN S V (bs.getD i.toNat default).wall).s.opens.length - n).toNat) (0,(ra,rc,N),(ea,ec,M)) (sB I) I ?_ ?_
   ·exact⟨⟨by omega,by omega⟩,⟨by omega,by omega⟩,by rw [g4];exact(List.append_nil _).symm,by rw [g5];exact(List.append_nil _).symm⟩
   ·rintro ⟨n,⟨qa,qc,Q⟩,⟨ta,tc,T⟩⟩ hI
    obtain⟨⟨h0,h1⟩,⟨h2,h3⟩,h4,h5⟩:=hI
    refine gS (gQ (zbw I I) (gN [3,6,7,8,9,10,28,29,30,44,45,46,47] I (zac (zap I (λ hc47=>?_) (λ hc47=>?_)))))
    ·have hc47:=oT hc47
     have hgo:=zCr (S:=S) (V:=V) (x:=x) (b:=(bs.getD i.toNat default)) (n:=n.toNat) (by omega)
     refine zaq (zac (zas (gS (gM I (gQ (zaE zCz I I (λ _ hw=>(zam zyn (hw.has (p:=2) I)))) (gQ (zbv (vs:=[_,_,_,_,_]) zy2 I (λ _ hw=>(zam zyn (hw.has (p:=2) I))) (by omega) (by omega) I) (zaG I I (zaL zy2 (zs:=[_,_,_,_,_]) I) λ b16=>(gA I (zaA 0 zy2 I I (vs:=[_,_,_,_,_]) I I I I I (gN [3,6,7,8,9,10,15,16,28,29,30,44,45,46] I (zas (gS (gQ (zab zAI I) (gQ (zah 0 tf5 I I I) (gQ (zcr I I) (gA I (gN [3,6,7,8,9,10,15,28,29,30,44,45,46,57] I (zap I (λ hc57=>?_) (λ hc57=>?_)))))))))))))))))))
     ·have hk1:decide (((opB S V (bs.getD i.toNat default)).getD n.toNat default).kind=1)=false:=by have h:=hc57;rw [nT] at h;exact h
      have hta:smT S V x (bs.getD i.toNat default) n.toNat true=false:=by unfold smT;rw [hk1];rfl
      have htb:smT S V x (bs.getD i.toNat default) n.toNat false=false:=by unfold smT;rw [hk1];rfl
      refine zaq (zaa (gQ (zaY I I) (gM I (gN [3,6,7,8,9,10,28,29,30,44,45,46] I (zaK 0 I ?_)))))
      exact za1 (n+1,(_,_,_),(_,_,_)) (sB I) I ⟨⟨by omega,by omega⟩,⟨by first|omega|(rw [lA];simp only [lC,lN];omega),by first|omega|(rw [lA];simp only [lC,lN];omega)⟩,by rw [show(n+1).toNat=n.toNat+1 from by omega];first|rw [zAh hta,tN g0,tN h0,←List.append_assoc,←h4]|rw [zBc hta,←h4],by rw [show(n+1).toNat=n.toNat+1 from by omega];first|rw [zAh htb,tN g0,tN h0,←List.append_assoc,←h5]|rw [zBc htb,←h5]⟩ (by simp only [];omega)
     ·have hk1:decide (((opB S V (bs.getD i.toNat default)).getD n.toNat default).kind=1)=true:=by have h:=hc57;rw [nF] at h;exact h
      have e1:∀ want,smT S V x (bs.getD i.toNat default) n.toNat want=(((zBN S V x (bs.getD i.toNat default) ((zaN S V (bs.getD i.toNat default).wall).s.opens.getD n.toNat default)).1&&(zBN S V x (bs.getD i.toNat default) ((zaN S V (bs.getD i.toNat default).wall).s.opens.getD n.toNat default)).2) == want):=λ want=>by unfold smT;rw [hk1];rfl
      refine gS (gM I (gQ (zbx I) (gQ (zab zCj I) (gQ (zah 8 zGI I I I) (gM I (gQ (zaE zHX I I (λ _ hw=>(zam zzY (hw.has (p:=10) I)))) (gQ (zcE zmF I (λ _ hw=>(zam zzY (hw.has (p:=10) I))) (by omega) (by omega) I) (gM I (gQ (zyY (v:=.agg #[.bool ((zyu S V x (bs.getD i.toNat default)).getD n.toNat (false,false)).1,.bool ((zyu S V x (bs.getD i.toNat default)).getD n.toNat (false,false)).2]) (zAV zD2 I I (λ _ hw=>zEM (hw.has (p:=11) I) hF (by omega))) (by rw [show n=(n.toNat:Int) from by omega];exact zGi (by omega))) (gQ (zaI I (zB3 _ _)) (gQ (zHs I I I) (gA I (gN [3,6,7,8,9,10,15,28,29,30,44,45,46,61] I (zap I (λ hc61=>?_) (λ hc61=>?_)))))))))))))))
      ·rw [hgo] at hc61
       have hta:=(e1 true).trans hc61
       have htb:=(e1 false).trans (eq_t _ hc61)
       refine zaa (gM I (gM I (gM I (gQ (zaI I (zAA _ _)) (zaG I I (zaD I (zFq _ _) zyJ I) λ b77=>(zb4 (m:=[(⟨i,n⟩:Int×Int)]) 8 af49 zyJ I I I I (λ _ hw=>(zam zyJ (hw.has (p:=0) I))) (by first|omega|(simp only [lC,lN];omega)) (by first|(unfold maxLen;omega)|(simp only [lC,lN,maxLen];omega)) λ a78 c78=>(gA I (gN [3,6,7,8,9,10,28,29,30,44,45,46] I (zaa (gQ (zaY I I) (gM I (gN [3,6,7,8,9,10,28,29,30,44,45,46] I (zaK 0 I (zaK 0 I ?_))))))))))))))
       exact za1 (n+1,(_,_,_),(_,_,_)) (sB I) I ⟨⟨by omega,by omega⟩,⟨by first|omega|(rw [lA];simp only [lC,lN];omega),by first|omega|(rw [lA];simp only [lC,lN];omega)⟩,by rw [show(n+1).toNat=n.toNat+1 from by omega];first|rw [zAh hta,tN g0,tN h0,←List.append_assoc,←h4]|rw [zBc hta,←h4],by rw [show(n+1).toNat=n.toNat+1 from by omega];first|rw [zAh htb,tN g0,tN h0,←List.append_assoc,←h5]|rw [zBc htb,←h5]⟩ (by simp only [];omega)
      ·rw [hgo] at hc61
       have hta:=(e1 true).trans hc61
       have htb:=(e1 false).trans (eq_f _ hc61)
       refine zaa (gM I (gM I (gM I (gQ (zaI I (zAA _ _)) (zaG I I (zaD I (zFq _ _) zyJ I) λ b55=>(zb4 (m:=[(⟨i,n⟩:Int×Int)]) 7 af49 zyJ I I I I (λ _ hw=>(zam zyJ (hw.has (p:=0) I))) (by first|omega|(simp only [lC,lN];omega)) (by first|(unfold maxLen;omega)|(simp only [lC,lN,maxLen];omega)) λ a56 c56=>(gA I (gN [3,6,7,8,9,10,28,29,30,44,45,46] I (zaa (gQ (zaY I I) (gM I (gN [3,6,7,8,9,10,28,29,30,44,45,46] I (zaK 0 I (zaK 0 I ?_))))))))))))))
       exact za1 (n+1,(_,_,_),(_,_,_)) (sB I) I ⟨⟨by omega,by omega⟩,⟨by first|omega|(rw [lA];simp only [lC,lN];omega),by first|omega|(rw [lA];simp only [lC,lN];omega)⟩,by rw [show(n+1).toNat=n.toNat+1 from by omega];first|rw [zAh hta,tN g0,tN h0,←List.append_assoc,←h4]|rw [zBc hta,←h4],by rw [show(n+1).toNat=n.toNat+1 from by omega];first|rw [zAh htb,tN g0,tN h0,←List.append_assoc,←h5]|rw [zBc htb,←h5]⟩ (by simp only [];omega)
    ·have hc47:=oD hc47
     have hnE:n.toNat=(opB S V (bs.getD i.toNat default)).length:=by show n.toNat=(zaN S V (bs.getD i.toNat default).wall).s.opens.length;omega
     have hu1:=zHn (S:=S) (V:=V) (bs:=bs) (x:=x) (want:=true) g0 hnE
     have hu2:=zHn (S:=S) (V:=V) (bs:=bs) (x:=x) (want:=false) g0 hnE
     refine za8 I (zaa (gQ (zaY I I) (gM I (gN [3,6,7,8,9,28,29,30] I (zaK 0 I (zaK 0 I (zaK 0 I (zaK 0 I (zaK 0 I ?_)))))))))
     exact za1 (i+1,(_,_,_),(_,_,_)) (sB I) I ⟨⟨by omega,by omega⟩,⟨by omega,by omega⟩,by rw [hu1,h4],by rw [hu2,h5]⟩ (by simp only [];omega)
  ·have hc31:=oD hc31
   refine za8 I (gS (gM I (gM I (gA I (gA I (gA I (gN [6,7,8] I (zaw (zao 1 I (zbT 2 (zbd ((ra,rc),(ea,ec)) 0 (zdh I (zau I) (zau I) (zau I)) ?_ (by rw [g4,g5,show i.toNat=bs.length from by omega];rfl))))))))))))
   rw [g4,g5,show i.toNat=bs.length from by omega]
theorem en72:En Tryz.prog 72:=eK Tryz.func72
theorem zGX (ca:yO) (ccap:Nat) (cs:List ByteArray) (ba:yO) (bcp:Nat) (bs:List Bdr) (c:Int) (b:Nat) (w:World) (hcs:zaP cs.length) (hb:Has w (Box b (zzz6 ca cs ccap ba bs bcp) 40)) :
  Calls Tryz.prog 72 #[O c,Z b] w (Pure (.bool (outC cs.length c)) w):=by
 unfold zaP at hcs
 refine zan (vs:=[_,_]) Tryz.func72 I I (bL I) (gS (gA I (gN [0,1,3] I (gS (gM I (gQ (zab zBJ I) (gQ (zbW tf26 I (λ _ hw=>zaQ (rH hb hw) I)) (gQ (zaV (Tryz.underlying26) I) (gQ (zfV I I) (gQ (zaJ en58 I (λ w hw=>zyR _ _ _ w)) (gQ (zbR I) (gA I (gN [3] I (zaw (zay (zaC I (zau I)) ?_)))))))))))))))
 rfl
theorem zFH (a:yO) (cap:Nat) (S:List ShC) (b:yO) (bcap:Nat) (V:List WlC) (ca:yO) (ccap:Nat) (cs:List ByteArray) (ba:yO) (bcp:Nat) (bs:List Bdr) (x:Anm) (la:yO) (lcap:Nat) (cl:List Int) (w:World) (hl:yag w a S) (hs:zaP S.length) (hcS:S.length≤cap) (hlw:yah w b V) (hsw:zaP V.length) (hsh:yab S w) (hss:yac S) (hwo:yaa V w) (hsv:yae V) (hcp:yad V) (hkn:yaf V) (hc:yai w ca cs) (hcs:zaP cs.length) (hcap:cs.length≤ccap) (hbd:yaj w ba bs) (hbs:zaP bs.length) (hcl:Has w (Ints la cl)) (hcls:zaP cl.length) (hok:(zym S V cs bs x)=true) (hin:cl.any (outC cs.length)=false) :
  Calls Tryz.prog 46 #[zzz3 a S cap b V bcap,zzz4 ca cs ccap ba bs bcp,zzz1 x,C la cl.length lcap] w (zcU (λ z:Nat×(Option Addr×Nat)×(Option Addr×Nat)×List (Nat×List (Bool×Bool))=>.tuple #[Z z.1,O 0]) (λ z=>zEw z ca ccap cs ba bcp bs (zyj S V bs x) (zzS S V bs x)) w):=by
 refine zan (vs:=[_,_,_,_]) Tryz.func46 I I (bL I) (gS (zaG I I (za3 (vs:=[_,_]) I I) λ b4=>(zaG I I (za3 (vs:=[_,_]) I I) λ b5=>(zaG I I (za3 (vs:=[_,_,_,_,_]) I I) λ b6=>(gA I (gA I (gN [3,4,5,6,8,9] I (gS (gQ (zat 2 tf37 I I (vs:=[_,_]) I I) (gQ (zat 1 tf40 I I (vs:=[_,_]) I I) (gQ (zat 0 tf41 I I (vs:=[_,_,_,_,_]) I I) (zaG I I (zbm en49 I (λ w hw=>zzt _ _ S _ _ V _ _ cs _ _ bs x w (rH hl hw) hs hcS (rH hlw hw) hsw (λ z hz=>(rH (hsh z hz) hw)) hss (λ z hz=>(rH (hwo z hz) hw)) hsv hcp hkn (rH hc hw) hcs hcap (rH hbd hw) hbs hok)) λ p16=>(gM I (gQ (zaB I I) (gQ (zaB I I) (gA I (gA I (gN [3,5,8,9,10,11] I (zac (gS (gM I (gQ (zcr I I) (gN [3,5,8,9,10,11,20] I (zd8 I (zaq (zac (gS (gM I (gQ (zbO («as»:=[]) (bs:=[_]) I I) ?_)))))))))))))))))))))))))))))
 refine gQ (zaJ en71 I (λ w hw=>zhP _ _ cl (outC cs.length) _ [] [Z b5] w (rH hcl hw) hcls (λ w'=>Has w' (Box b5 (zzz6 ca cs ccap ba bs bcp) 40)) (λ w' hx=>Has.ext (hw.has (p:=2) I) hx) en72 (λ z w' hm=>zGX ca ccap cs ba bcp bs z b5 w' hcs hm))) (gN [8,9,10,24] I (zap I (λ hc24=>?_) (λ hc24=>?_)))
 ·exfalso;rw [hin] at hc24;cases hc24
 ·refine zaq (gS (gM I (gA I (gA I (gN [8,9] I (zaw (zbd p16 0 (zc2 I (zau I) (zau I)) ?_ I)))))))
  rfl
theorem zGY (a:yO) (cap:Nat) (S:List ShC) (b:yO) (bcap:Nat) (V:List WlC) (ca:yO) (ccap:Nat) (cs:List ByteArray) (ba:yO) (bcp:Nat) (bs:List Bdr) (x:Anm) (la:yO) (lcap:Nat) (cl:List Int) (w:World) (hl:yag w a S) (hs:zaP S.length) (hcS:S.length≤cap) (hlw:yah w b V) (hsw:zaP V.length) (hsh:yab S w) (hss:yac S) (hwo:yaa V w) (hsv:yae V) (hcp:yad V) (hkn:yaf V) (hc:yai w ca cs) (hcs:zaP cs.length) (hcap:cs.length≤ccap) (hbd:yaj w ba bs) (hbs:zaP bs.length) (_hcl:Has w (Ints la cl)) (_hcls:zaP cl.length) (hno:¬ (zym S V cs bs x)=true) :
  Calls Tryz.prog 46 #[zzz3 a S cap b V bcap,zzz4 ca cs ccap ba bs bcp,zzz1 x,C la cl.length lcap] w (zcU (λ _:Nat×(Option Addr×Nat)×(Option Addr×Nat)×List (Nat×List (Bool×Bool))=>.tuple #[.pointer none,O (atE S V cs bs x cl)]) (λ _=>Emp) w):=by
 refine zan (vs:=[_,_,_,_]) Tryz.func46 I I (bL I) (gS (zaG I I (za3 (vs:=[_,_]) I I) λ b4=>(zaG I I (za3 (vs:=[_,_]) I I) λ b5=>(zaG I I (za3 (vs:=[_,_,_,_,_]) I I) λ b6=>(gA I (gA I (gN [3,4,5,6,8,9] I (gS (gQ (zat 2 tf37 I I (vs:=[_,_]) I I) (gQ (zat 1 tf40 I I (vs:=[_,_]) I I) (gQ (zat 0 tf41 I I (vs:=[_,_,_,_,_]) I I) (zaG I I (zbm en49 I (λ w hw=>zz8 _ _ S _ _ V _ _ cs _ _ bs x w (rH hl hw) hs hcS (rH hlw hw) hsw (λ z hz=>(rH (hsh z hz) hw)) hss (λ z hz=>(rH (hwo z hz) hw)) hsv hcp hkn (rH hc hw) hcs hcap (rH hbd hw) hbs hno)) λ p16=>(gM I (gQ (zaB I I) (gQ (zaB I I) (gA I (gA I (gN [3,5,8,9,10,11] I (zac (gS (gM I (gQ (zcr I I) (gN [3,5,8,9,10,11,20] I (zdg I (gS (gM I (gA I (gA I (gN [3,5,8,9,10] I (zaw (zyS ?_)))))))))))))))))))))))))))))))
 exact zbd (0,(none,0),(none,0),[]) 0 (zc2 I (zau I) (zau I)) (by rw [zFG hno]) I
theorem zGZ (a:yO) (cap:Nat) (S:List ShC) (b:yO) (bcap:Nat) (V:List WlC) (ca:yO) (ccap:Nat) (cs:List ByteArray) (ba:yO) (bcp:Nat) (bs:List Bdr) (x:Anm) (la:yO) (lcap:Nat) (cl:List Int) (w:World) (hl:yag w a S) (hs:zaP S.length) (hcS:S.length≤cap) (hlw:yah w b V) (hsw:zaP V.length) (hsh:yab S w) (hss:yac S) (hwo:yaa V w) (hsv:yae V) (hcp:yad V) (hkn:yaf V) (hc:yai w ca cs) (hcs:zaP cs.length) (hcap:cs.length≤ccap) (hbd:yaj w ba bs) (hbs:zaP bs.length) (hcl:Has w (Ints la cl)) (hcls:zaP cl.length) (hok:(zym S V cs bs x)=true) (hout:cl.any (outC cs.length)=true) :
  Calls Tryz.prog 46 #[zzz3 a S cap b V bcap,zzz4 ca cs ccap ba bs bcp,zzz1 x,C la cl.length lcap] w (zcU (λ _:Nat×(Option Addr×Nat)×(Option Addr×Nat)×List (Nat×List (Bool×Bool))=>.tuple #[.pointer none,O (atE S V cs bs x cl)]) (λ _=>Emp) w):=by
 refine zan (vs:=[_,_,_,_]) Tryz.func46 I I (bL I) (gS (zaG I I (za3 (vs:=[_,_]) I I) λ b4=>(zaG I I (za3 (vs:=[_,_]) I I) λ b5=>(zaG I I (za3 (vs:=[_,_,_,_,_]) I I) λ b6=>(gA I (gA I (gN [3,4,5,6,8,9] I (gS (gQ (zat 2 tf37 I I (vs:=[_,_]) I I) (gQ (zat 1 tf40 I I (vs:=[_,_]) I I) (gQ (zat 0 tf41 I I (vs:=[_,_,_,_,_]) I I) (zaG I I (zbm en49 I (λ w hw=>zzt _ _ S _ _ V _ _ cs _ _ bs x w (rH hl hw) hs hcS (rH hlw hw) hsw (λ z hz=>(rH (hsh z hz) hw)) hss (λ z hz=>(rH (hwo z hz) hw)) hsv hcp hkn (rH hc hw) hcs hcap (rH hbd hw) hbs hok)) λ p16=>(gM I (gQ (zaB I I) (gQ (zaB I I) (gA I (gA I (gN [3,5,8,9,10,11] I (zac (gS (gM I (gQ (zcr I I) (gN [3,5,8,9,10,11,20] I (zd8 I (zaq (zac (gS (gM I (gQ (zbO («as»:=[]) (bs:=[_]) I I) ?_)))))))))))))))))))))))))))))
 refine gQ (zaJ en71 I (λ w hw=>zhP _ _ cl (outC cs.length) _ [] [Z b5] w (rH hcl hw) hcls (λ w'=>Has w' (Box b5 (zzz6 ca cs ccap ba bs bcp) 40)) (λ w' hx=>Has.ext (hw.has (p:=2) I) hx) en72 (λ z w' hm=>zGX ca ccap cs ba bcp bs z b5 w' hcs hm))) (gN [8,9,10,24] I (zap I (λ hc24=>?_) (λ hc24=>?_)))
 ·refine gS (gA I (gA I (gN [8,9,10] I (zaw (zyS ?_)))))
  exact zbd (0,(none,0),(none,0),[]) 0 (zc2 I (zau I) (zau I)) (by rw [zDt hok hout]) I
 ·exfalso;rw [hout] at hc24;cases hc24
theorem zDs (a:yO) (cap:Nat) (S:List ShC) (b:yO) (bcap:Nat) (V:List WlC) (ca:yO) (ccap:Nat) (cs:List ByteArray) (ba:yO) (bcp:Nat) (bs:List Bdr) (x:Anm) (la:yO) (lcap:Nat) (cl:List Int) (w:World) (hl:yag w a S) (hs:zaP S.length) (hcS:S.length≤cap) (hlw:yah w b V) (hsw:zaP V.length) (hsh:yab S w) (hss:yac S) (hwo:yaa V w) (hsv:yae V) (hcp:yad V) (hkn:yaf V) (hc:yai w ca cs) (hcs:zaP cs.length) (hcap:cs.length≤ccap) (hbd:yaj w ba bs) (hbs:zaP bs.length) (hcl:Has w (Ints la cl)) (hcls:zaP cl.length) (hne:¬ (atE S V cs bs x cl)=0) :
  Calls Tryz.prog 46 #[zzz3 a S cap b V bcap,zzz4 ca cs ccap ba bs bcp,zzz1 x,C la cl.length lcap] w (zcU (λ _:Nat×(Option Addr×Nat)×(Option Addr×Nat)×List (Nat×List (Bool×Bool))=>.tuple #[.pointer none,O (atE S V cs bs x cl)]) (λ _=>Emp) w):=by
 by_cases hok:(zym S V cs bs x)=true
 ·by_cases hout:cl.any (outC cs.length)=true
  ·exact zGZ a cap S b bcap V ca ccap cs ba bcp bs x la lcap cl w hl hs hcS hlw hsw hsh hss hwo hsv hcp hkn hc hcs hcap hbd hbs hcl hcls hok hout
  ·exact absurd (zFF hok (by simpa using hout)) hne
 ·exact zGY a cap S b bcap V ca ccap cs ba bcp bs x la lcap cl w hl hs hcS hlw hsw hsh hss hwo hsv hcp hkn hc hcs hcap hbd hbs hcl hcls hok
theorem zHf (lb:Nat) (cell:Int) (w:World)  :
  Calls Tryz.prog 60 #[Z lb,O cell] w (zcU (λ z:Nat×Nat=>.func (.func 90) #[] #[Z z.1,Z z.2]) (λ z=>SepR [Box z.1 [Z lb] 106,Box z.2 [O cell] 3]) w):=by
 refine zan (vs:=[_,_]) Tryz.func60 I I (bL I) (gS (zaG I I (za3 (vs:=[_]) I I) λ b2=>(zaG I I (za3 (vs:=[_]) I I) λ b3=>(gA I (gN [2,3,4] I (gS (gQ (zbO («as»:=[]) (bs:=[_,_]) I I) (gA I (gN [4] I (zaw (zao 1 I (zbT 2 (zbd (b2,b3) 0 (zaC I (zau I)) ?_ I)))))))))))))
 rfl
theorem zzI:TF Tryz.prog 106 false 1 (.pointer none):=tK
theorem zza:FO Tryz.prog 144 0 0:=fK
theorem zDZ (x0 x1 x2 x3 x4 x5 x6 x7 x8 x9:Int) (w:World):(Instr.index 148 (.agg #[O x0,O x1,O x2,O x3,O x4,O x5,O x6,O x7,O x8,O x9]) (O 0)).run Tryz.prog w=.ok (.agg #[O x0,O x1,O x2,O x3,O x4]) w:=by kernel_rfl
theorem zD0 (x0 x1 x2 x3 x4 x5 x6 x7 x8 x9:Int) (w:World):(Instr.index 148 (.agg #[O x0,O x1,O x2,O x3,O x4,O x5,O x6,O x7,O x8,O x9]) (O 1)).run Tryz.prog w=.ok (.agg #[O x5,O x6,O x7,O x8,O x9]) w:=by kernel_rfl
theorem zGj (p q:Nat) (cell:Int) (lb:Nat) (wa fa:yO) (wc fc:Nat) (W:List (Crg×Crg)) (F:List (Nat×List (Bool×Bool))) (ca:yO) (ccap:Nat) (cs:List ByteArray) (ba:yO) (bcp:Nat) (bs:List Bdr) (hW:zaP W.length) :
  SeqC Tryz.prog 90 [Z p,Z q] ((outL W cell).map zB9) (λ w=>Has w (Box p [Z lb] 106)∧Has w (Box q [O cell] 3)∧Has w (Box lb [C ca cs.length ccap,C ba bs.length bcp,C wa W.length wc,C fa (F.map (·.1)).length fc] 128)∧Has w (zaW wa 10 zyw W)):=by
 intro X J Rl D y w B x0 hB hA h0 hM hy
 unfold zaP at hW
 refine zby hB hA (vs:=[_,_,_]) Tryz.func90 I I (bL I) ?_
 have hmem:∀ {cz:Cx} {Hz:List Res} {xz:X} {pz:Nat} {w':World},Inside (λ k=>k<w.heap.size∧¬ B k) w cz→Hz[pz]?=some (J xz)→Hp cz.U cz.w0 Hz w'→(Has w' (Box p [Z lb] 106)∧Has w' (Box q [O cell] 3)∧Has w' (Box lb [C ca cs.length ccap,C ba bs.length bcp,C wa W.length wc,C fa (F.map (·.1)).length fc] 128)∧Has w' (zaW wa 10 zyw W)):=λ hin hp hw=>by
  obtain⟨B',q1,q2,q3,q4⟩:=zqm hin hp hw
  exact hM _ _ B' q4 q1 q2 q3
 have ins0:=zpY Tryz.prog Tryz.f90.ntmps w B
 refine gS (gQ (zbW zzI I (λ _ hw=>zaQ (hmem ins0 (pz:=0) I hw).1 I)) (gQ (zbx I) (gQ (zab zyG I) (gQ (zbW zzV I (λ _ hw=>zaQ (hmem ins0 (pz:=0) I hw).2.2.1 I)) (gQ (zaV (Tryz.underlying125) I) (gM I (gN [0,2,11,12,13] I (zas (zbf (X:=Int×X) (λ⟨i,x2⟩=>[(0,.func (.yield y) #[] #[]),(2,Z q),(11,C wa W.length wc),(12,O (W.length:Int)),(13,O i)]) (λ⟨i,x2⟩=>[J x2]) (λ⟨i,x2⟩=>(0≤i∧i≤W.length∧Rl (cntP W cell i.toNat 0) x2)) (λ⟨i,x2⟩=>(W.length - i).toNat) (0,x0) (sB I) I ?_ ?_)))))))))
 ·exact⟨by omega,by omega,by rw [zBH];exact h0⟩
 ·rintro ⟨i,x2⟩ hI
  obtain⟨g0,g1,g2⟩:=hI
  refine gS (gQ (zbw I I) (gN [0,2,11,12,13,14] I (zac (zap I (λ hc14=>?_) (λ hc14=>?_)))))
  ·have hc14:=oT hc14
   refine zaq (zac (zas (gS (gQ (zaE zAg I I (λ _ hw=>(hmem ins0 (pz:=0) I hw).2.2.2)) (gQ (zbv (vs:=[_,_,_,_,_,_,_,_,_,_]) zA0 I (λ _ hw=>(hmem ins0 (pz:=0) I hw).2.2.2) (by omega) (by omega) I) (zaG I I (zaL zA0 (zs:=[_,_,_,_,_,_,_,_,_,_]) I) λ b5=>(zbz 0 zA0 I I (vs:=[_,_,_,_,_,_,_,_,_,_]) I I I I I (gN [0,2,5,11,12,13] I (gS (gQ (zat 0 zA0 I I (vs:=[_,_,_,_,_,_,_,_,_,_]) I I) (gM I (gN [0,2,11,12,13,17,18] I (zas ?_)))))))))))))
   refine zbf (X:=Int×X) (λ⟨k,x3⟩=>[(0,.func (.yield y) #[] #[]),(2,Z q),(11,C wa W.length wc),(12,O (W.length:Int)),(13,O i),(17,.agg #[O (W.getD i.toNat default).1.frm,O (W.getD i.toNat default).1.to,O (W.getD i.toNat default).1.brd,O (W.getD i.toNat default).1.way,O (W.getD i.toNat default).1.eff,O (W.getD i.toNat default).2.frm,O (W.getD i.toNat default).2.to,O (W.getD i.toNat default).2.brd,O (W.getD i.toNat default).2.way,O (W.getD i.toNat default).2.eff]),(18,O k)]) (λ⟨k,x3⟩=>[Box b5 [O (W.getD i.toNat default).1.frm,O (W.getD i.toNat default).1.to,O (W.getD i.toNat default).1.brd,O (W.getD i.toNat default).1.way,O (W.getD i.toNat default).1.eff,O (W.getD i.toNat default).2.frm,O (W.getD i.toNat default).2.to,O (W.getD i.toNat default).2.brd,O (W.getD i.toNat default).2.way,O (W.getD i.toNat default).2.eff] 148,J x3]) (λ⟨k,x3⟩=>(0≤k∧k≤2∧Rl (cntP W cell i.toNat k) x3)) (λ⟨k,x3⟩=>(2 - k).toNat) (0,x2) (sB I) I ?_ ?_
   ·exact⟨by decide,by decide,g2⟩
   ·rintro ⟨k,x3⟩ hI
    obtain⟨k0,k1,k2⟩:=hI
    refine gS (gQ (zbw I I) (gN [0,2,11,12,13,17,18,19] I (zac (zap I (λ hc19=>?_) (λ hc19=>?_)))))
    ·have hc19:=oT hc19
     rcases(show k=0∨k=1 by omega) with hk|hk
     ·refine zae (T':=[(0,_),(2,_),(11,_),(12,_),(13,_),(17,_),(18,O 0),(19,_)]) ⟨I,I,I,I,I,I,(by show some (Value.int .i64 k)=_;rw [hk]),I,trivial⟩ ?_
      rw [hk] at k2
      refine zaq (zac (zas (gS (gQ (zzF I I (zDZ _ _ _ _ _ _ _ _ _ _)) (zaG I I (zaL zyD (zs:=[_,_,_,_,_]) I) λ b7=>(zaA 0 zyD I I (vs:=[_,_,_,_,_]) I I I I I (gN [0,2,7,11,12,13,17,18] I (gS (gQ (zab zza I) (gQ (zah 0 tf3 I I I) (gQ (zbW tf3 I (λ _ hw=>zaQ (hmem ins0 (pz:=2) I hw).2.1 I)) (gQ (zbL I I) (gM I (zai I I I I (λ hg25=>?_) (λ hg25=>?_)))))))))))))))
      ·replace hg25:_=true:=hg25
       try rw [hg25]
       refine gQ (zab zzk I) (gT I I I (gQ (zah 0 tf3 I I I) (gT I I I (gQ (zfx I I) (gQ (za5 I I I) (gM I (zai I I I I (λ hg30=>?_) (λ hg30=>?_))))))))
       ·replace hg30:_=true:=hg30
        try rw [hg30]
        refine gM I ?_
        have hcr:zyF cell (W.getD i.toNat default).1=true:=by unfold zyF;rw [hg25,hg30];rfl
        refine gT I I I (gQ (zat 0 zyD I I (vs:=[_,_,_,_,_]) I I) (gT I I I (znl 2 ins0 I I I I (hy _ _ _ (zE2 (by omega) hcr) k2) λ b33 x33 hp33=>(gT I I I (gQ (zbR I) (gQ (za5 I I I) (gN [0,2,11,12,13,17,18,35] I (zap I (λ hc35=>?_) (λ hc35=>?_)))))))))
        ·refine zaw (zd9 x33 2 (zcN I) I I (.inr (by have:=hp33;rwa [show b33=false from by simpa using hc35,if_neg fT] at this)))
        ·refine zaq (zaa (gQ (zaY I I) (gM I (gN [0,2,11,12,13,17,18] I (zaK 0 I ?_)))))
         exact za1 (1,_) (sB I) I ⟨by decide,by decide,by first|(rw [zDH hcr];have:=hp33;rwa [show b33=true from by simpa using hc35,if_pos I] at this)|(rw [zA4 (by unfold zyF;rw [hg25];rfl)];exact k2)|(rw [zA4 (by unfold zyF;rw [hg30];simp)];exact k2)⟩ (by simp only [];omega)
       ·replace hg30:_=false:=hg30
        try rw [hg30]
        refine gF I I I (gF I I I (gF I I I (gQ (za5 I I I) (gN [0,2,11,12,13,17,18,35] I (zd8 I (zaq (zaa (gQ (zaY I I) (gM I (gN [0,2,11,12,13,17,18] I (zaK 0 I ?_)))))))))))
        exact za1 (1,_) (sB I) I ⟨by decide,by decide,by first|(rw [zDH hcr];have:=hp33;rwa [show b33=true from by simpa using hc35,if_pos I] at this)|(rw [zA4 (by unfold zyF;rw [hg25];rfl)];exact k2)|(rw [zA4 (by unfold zyF;rw [hg30];simp)];exact k2)⟩ (by simp only [];omega)
      ·replace hg25:_=false:=hg25
       try rw [hg25]
       refine gF I I I (gF I I I (gQ (za5 I I I) (gM I (gF I I I (gF I I I (gF I I I (gF I I I (gQ (za5 I I I) (gN [0,2,11,12,13,17,18,35] I (zd8 I (zaq (zaa (gQ (zaY I I) (gM I (gN [0,2,11,12,13,17,18] I (zaK 0 I ?_))))))))))))))))
       exact za1 (1,_) (sB I) I ⟨by decide,by decide,by first|(rw [zDH hcr];have:=hp33;rwa [show b33=true from by simpa using hc35,if_pos I] at this)|(rw [zA4 (by unfold zyF;rw [hg25];rfl)];exact k2)|(rw [zA4 (by unfold zyF;rw [hg30];simp)];exact k2)⟩ (by simp only [];omega)
     ·refine zae (T':=[(0,_),(2,_),(11,_),(12,_),(13,_),(17,_),(18,O 1),(19,_)]) ⟨I,I,I,I,I,I,(by show some (Value.int .i64 k)=_;rw [hk]),I,trivial⟩ ?_
      rw [hk] at k2
      refine zaq (zac (zas (gS (gQ (zzF I I (zD0 _ _ _ _ _ _ _ _ _ _)) (zaG I I (zaL zyD (zs:=[_,_,_,_,_]) I) λ b7=>(zaA 0 zyD I I (vs:=[_,_,_,_,_]) I I I I I (gN [0,2,7,11,12,13,17,18] I (gS (gQ (zab zza I) (gQ (zah 0 tf3 I I I) (gQ (zbW tf3 I (λ _ hw=>zaQ (hmem ins0 (pz:=2) I hw).2.1 I)) (gQ (zbL I I) (gM I (zai I I I I (λ hg25=>?_) (λ hg25=>?_)))))))))))))))
      ·replace hg25:_=true:=hg25
       try rw [hg25]
       refine gQ (zab zzk I) (gT I I I (gQ (zah 0 tf3 I I I) (gT I I I (gQ (zfx I I) (gQ (za5 I I I) (gM I (zai I I I I (λ hg30=>?_) (λ hg30=>?_))))))))
       ·replace hg30:_=true:=hg30
        try rw [hg30]
        refine gM I ?_
        have hcr:zyF cell (W.getD i.toNat default).2=true:=by unfold zyF;rw [hg25,hg30];rfl
        refine gT I I I (gQ (zat 0 zyD I I (vs:=[_,_,_,_,_]) I I) (gT I I I (znl 2 ins0 I I I I (hy _ _ _ (zE3 (by omega) hcr) k2) λ b33 x33 hp33=>(gT I I I (gQ (zbR I) (gQ (za5 I I I) (gN [0,2,11,12,13,17,18,35] I (zap I (λ hc35=>?_) (λ hc35=>?_)))))))))
        ·refine zaw (zd9 x33 2 (zcN I) I I (.inr (by have:=hp33;rwa [show b33=false from by simpa using hc35,if_neg fT] at this)))
        ·refine zaq (zaa (gQ (zaY I I) (gM I (gN [0,2,11,12,13,17,18] I (zaK 0 I ?_)))))
         exact za1 (2,_) (sB I) I ⟨by decide,by decide,by first|(rw [zDI hcr];have:=hp33;rwa [show b33=true from by simpa using hc35,if_pos I] at this)|(rw [zA5 (by unfold zyF;rw [hg25];rfl)];exact k2)|(rw [zA5 (by unfold zyF;rw [hg30];simp)];exact k2)⟩ (by simp only [];omega)
       ·replace hg30:_=false:=hg30
        try rw [hg30]
        refine gF I I I (gF I I I (gF I I I (gQ (za5 I I I) (gN [0,2,11,12,13,17,18,35] I (zd8 I (zaq (zaa (gQ (zaY I I) (gM I (gN [0,2,11,12,13,17,18] I (zaK 0 I ?_)))))))))))
        exact za1 (2,_) (sB I) I ⟨by decide,by decide,by first|(rw [zDI hcr];have:=hp33;rwa [show b33=true from by simpa using hc35,if_pos I] at this)|(rw [zA5 (by unfold zyF;rw [hg25];rfl)];exact k2)|(rw [zA5 (by unfold zyF;rw [hg30];simp)];exact k2)⟩ (by simp only [];omega)
      ·replace hg25:_=false:=hg25
       try rw [hg25]
       refine gF I I I (gF I I I (gQ (za5 I I I) (gM I (gF I I I (gF I I I (gF I I I (gF I I I (gQ (za5 I I I) (gN [0,2,11,12,13,17,18,35] I (zd8 I (zaq (zaa (gQ (zaY I I) (gM I (gN [0,2,11,12,13,17,18] I (zaK 0 I ?_))))))))))))))))
       exact za1 (2,_) (sB I) I ⟨by decide,by decide,by first|(rw [zDI hcr];have:=hp33;rwa [show b33=true from by simpa using hc35,if_pos I] at this)|(rw [zA5 (by unfold zyF;rw [hg25];rfl)];exact k2)|(rw [zA5 (by unfold zyF;rw [hg30];simp)];exact k2)⟩ (by simp only [];omega)
    ·have hk2:k=2:=by have:=oD hc19;omega
     refine za8 I (zaa (gQ (zaY I I) (gM I (gN [0,2,11,12,13] I (zaK 0 I ?_)))))
     exact za1 (i+1,x3) (sB I) I ⟨by omega,by omega,by rw [show(i+1).toNat=i.toNat+1 from by omega,zHa (by omega),←hk2];exact k2⟩ (by simp only [];omega)
  ·have hc14:=oD hc14
   refine za8 I (zd9 x2 0 (zcN I) I I (.inl (by rw [lM,←zFX (i:=i.toNat) (by omega)];exact g2)))
end Go.Proofs.YteepmmghanbllaaGreatDoor