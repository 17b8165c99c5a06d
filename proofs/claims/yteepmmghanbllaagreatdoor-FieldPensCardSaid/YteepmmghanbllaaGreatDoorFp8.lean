/- What the proof of the root text leans on, part 8: the layer, plain facts and walks. No statement of the seat is proved in this text. -/
import Derived.ChangeSame
import Derived.Deep.Slices
import Derived.Handed
import Derived.HandedShaped
import Derived.LaidHandle
import Derived.LaidLaws
import Derived.LaidMore
import Derived.Lay
import Derived.Lib.LaidU8
import Derived.OpenShut
import Derived.ProofKit
import Derived.Shelf.Vars
import Derived.SizedLaws
import Derived.Stop.Joined
import Derived.Test.YteepmmghanbllaaGreatDoorRows
import Derived.WideKeyArgs
import Derived.Test.YteepmmghanbllaaGreatDoorFp7
set_option maxRecDepth 100000
set_option maxHeartbeats 32000000
namespace Go.Fld
open Go Go.K Go.Stn Go.Pln
def rchA (S:List ShC) (V:List WlC) (cs:List ByteArray) (bs:List Bdr) (x:Anm) (frm:Int):List Int:=if atE S V cs bs x [frm]=0 then zAs (zze (zyj S V bs x) (fun _=>true) frm) 40 else []
def smA (S:List ShC) (V:List WlC) (cs:List ByteArray) (bs:List Bdr) (x:Anm) (want:Bool):List (Int×Int):=if zym S V cs bs x=true then smN S V bs x want bs.length else []
def clA (S:List ShC) (V:List WlC) (cs:List ByteArray) (bs:List Bdr) (x:Anm) (frm to:Int):List Int:=if prtE S V cs bs x frm to=0 then clsB (zyj S V bs x) (clsA (zyj S V bs x) bs frm to).1 (clsA (zyj S V bs x) bs frm to).2 else []
def wkA (S:List ShC) (V:List WlC) (cs:List ByteArray) (bs:List Bdr) (x:Anm) (frm to:Int):List (List (Int×Int)):=if prtE S V cs bs x frm to=0 then(wksF (zyj S V bs x) frm to (clsB (zyj S V bs x) (clsA (zyj S V bs x) bs frm to).1 (clsA (zyj S V bs x) bs frm to).2).length (clsA (zyj S V bs x) bs frm to).1).map stpL else []
def smlF (S:List ShC) (V:List WlC) (cs:List ByteArray) (bs:List Bdr):Bool:=((zgI S V&&decide ((cs.length:Int)≤45))&&decide ((bs.length:Int)≤90))&&(decide ((bs.length:Int)≤20)||decide (80 < (bs.length:Int)))
theorem zEj {S:List ShC} {V:List WlC} {cs:List ByteArray} {bs:List Bdr} (h:smlF S V cs bs=true):zgI S V=true∧cs.length≤45∧bs.length≤90:=by
 unfold smlF at h
 simp only [aT,dT] at h
 exact⟨h.1.1.1,by omega,by omega⟩
theorem zDi {α:Type} [Inhabited α] {l:List α} {i:Int} (h0:0≤i) (h:i < (l.length:Int)):l.take i.toNat++[l.getD i.toNat default]=l.take (i+1).toNat:=by
 rw [show(i+1).toNat=i.toNat+1 from by omega,List.take_add_one,eG (by omega),gE,eG (by omega)]; rfl
end Go.Fld
namespace Go.K
open Go
section
variable {XS:Nat→Type} {c:Cx} {ds:List Deferred} {pre:List Oper} {N:Nat} {rd:List (Nat×Nat)} {ms:List Nat} {T0:List (Nat×Value)} {H:List Res} {K:List (E3 XS)→Prop} {i d:Nat} {r:List Oper} {S:List (E3 XS)} {op:Op} {ty:TypeId} {ps:String} {af:Array Edge}
theorem zIa {V V0:((i:Nat)→XS i)→Value} {j:Nat} {q b:Bool} (hb:lk3 S j=some V0) (hb2:∀ ρ,V0 ρ=if q=true then .bool b else undef) (hj:zaT ⟨some d,op,ty,ps,af,some (j,false)⟩ j=true)
  (h:(q&&!b)=true→∀ ρ:(i:Nat)→XS i,Y c ds (zeS ρ (rcf ms i) S S++H) (zdA ρ (zaT ⟨some d,op,ty,ps,af,some (j,false)⟩) S++zcl pre i T0) ⟨some d,op,ty,ps,af,some (j,false)⟩ (V ρ))
  (hl:∀ ρ ρ':(i:Nat)→XS i,zkB XS ms i ρ ρ'→V ρ=V ρ') (k:PH5 N rd c ds pre ms T0 H K (i+1) r (⟨i,some d,none,fun ρ=>if (q&&!b)=true then V ρ else undef,fun _=>Emp⟩ :: S)) :
  PH5 N rd c ds pre ms T0 H K i (⟨some d,op,ty,ps,af,some (j,false)⟩ :: r) S:=
 ⟨_,rfl,rfl,fun ρ ρ' hs=>⟨by show(if (q&&!b)=true then V ρ else undef)=(if (q&&!b)=true then V ρ' else undef); rw [hl ρ ρ' (fun j hj=>hs j (.inl hj))],rfl⟩,.inr ⟨V0,_,q&&!b,V,hb,hb2,hj,by cases q <;> cases b <;> simp [undef],rfl,rfl,fun _=>rfl,h⟩,k⟩
end
theorem zAe {X:Type} {V:X→Value} {A:X→Res} {w w':World} {e:Ending} {v:Value} (x:X) (h:Pure v w e w') (hv:v=V x) (hA:∀ w,(A x).A (fun _=>False) w):zcU V A w e w':=
 ⟨x,by rw [h.1,hv],h.2,fun _=>False,fun _ h=>h.elim,hA w'⟩
theorem zEg {R1 R2:Res} {w:World} (h1:R1.A (fun _=>False) w) (h2:R2.A (fun _=>False) w):(SepR [R1,R2]).A (fun _=>False) w:=
 ⟨fun _=>False,fun _=>False,fun _ h=>h,fun _ h=>h.elim,h1,fun _=>False,fun _=>False,fun _ h=>h,fun _ h=>h.elim,h2,trivial⟩
theorem zEh {R1 R2 R3:Res} {w:World} (h1:R1.A (fun _=>False) w) (h2:R2.A (fun _=>False) w) (h3:R3.A (fun _=>False) w):(SepR [R1,R2,R3]).A (fun _=>False) w:=
 ⟨fun _=>False,fun _=>False,fun _ h=>h,fun _ h=>h.elim,h1,fun _=>False,fun _=>False,fun _ h=>h,fun _ h=>h.elim,h2,fun _=>False,fun _=>False,fun _ h=>h,fun _ h=>h.elim,h3,trivial⟩
end Go.K
namespace Go.Proofs.YteepmmghanbllaaGreatDoor
open Go.K Go.Stn Go.Pln Go.Fld Go.RowKit
theorem zEk (a:Option Addr) (cap:Nat) (S:List ShC) (b:Option Addr) (bcap:Nat) (V:List WlC) (ca:Option Addr) (ccap:Nat) (cs:List ByteArray) (ba:Option Addr) (bcp:Nat) (bs:List Bdr) (x:Anm) (w:World) (hl:Has w (zaW a 20 zbH S)) (hs:zaP S.length) (hcS:S.length≤cap) (hlw:Has w (zaW b 4 zbS V)) (hsw:zaP V.length) (hsh:∀ z∈S,Has w (Ints z.a z.s.heights)) (hss:∀ z∈S,zaP z.s.heights.length) (hwo:∀ z∈V,Has w (zaW z.a 5 zba z.s.opens)) (hsv:∀ z∈V,zaP z.s.opens.length) (hcp:∀ z∈V,z.s.opens.length≤z.cap) (hkn:∀ z∈V,∀ o∈z.s.opens,Knd o) (hc:Has w (zaW ca 1 encS cs)) (hcs:zaP cs.length) (hcap:cs.length≤ccap) (hbd:Has w (zaW ba 6 zyr bs)) (hbs:zaP bs.length) (hno:¬ (zym S V cs bs x)=true) :
  Calls Tryz.prog 16 #[.agg #[.slice a S.length cap,.slice b V.length bcap],.agg #[.slice ca cs.length ccap,.slice ba bs.length bcp],.agg #[.int .i64 x.wide,.int .i64 x.high,.int .i64 x.step,.int .i64 x.leap,.int .i64 x.reach]] w (Pure (.tuple #[.slice none 0 0,.slice none 0 0,.int .i64 2]) w):=by
 refine zan (vs:=[_,_,_]) Tryz.func16 rfl rfl (bL rfl) (gS (zaG rfl rfl (za3 (vs:=[_,_]) rfl rfl) fun b3=>(zaG rfl rfl (za3 (vs:=[_,_]) rfl rfl) fun b4=>(zaG rfl rfl (za3 (vs:=[_,_,_,_,_]) rfl rfl) fun b5=>(gA rfl (gA rfl (gA rfl (gN [3,4,5,6,7,8] rfl (gS (gQ (zat 2 tf37 rfl rfl (vs:=[_,_]) rfl rfl) (gQ (zat 1 tf40 rfl rfl (vs:=[_,_]) rfl rfl) (gQ (zat 0 tf41 rfl rfl (vs:=[_,_,_,_,_]) rfl rfl) (zaG rfl rfl (zbm en49 rfl (fun w hw=>zz8 _ _ S _ _ V _ _ cs _ _ bs x w (rH hl hw) hs hcS (rH hlw hw) hsw (fun z hz=>(rH (hsh z hz) hw)) hss (fun z hz=>(rH (hwo z hz) hw)) hsv hcp hkn (rH hc hw) hcs hcap (rH hbd hw) hbs hno)) fun p21=>(gM rfl (gQ (zaB rfl rfl) (gQ (zaB rfl rfl) (gA rfl (gA rfl (gN [3,4,6,7,8,9] rfl (zac (gS (gM rfl (gQ (zcr rfl rfl) (gN [3,4,6,7,8,9,25] rfl (zdg rfl (gS (gM rfl (gA rfl (gA rfl (gA rfl (gN [3,4,6,7,8,9] rfl (zaw (zay (zdh rfl (zau rfl) (zau rfl) (zau rfl)) ?_)))))))))))))))))))))))))))))))))
 rfl
theorem zEG (a:Option Addr) (cap:Nat) (S:List ShC) (b:Option Addr) (bcap:Nat) (V:List WlC) (ca:Option Addr) (ccap:Nat) (cs:List ByteArray) (ba:Option Addr) (bcp:Nat) (bs:List Bdr) (x:Anm) (frm to:Int) (w:World) (hl:Has w (zaW a 20 zbH S)) (hs:zaP S.length) (hcS:S.length≤cap) (hlw:Has w (zaW b 4 zbS V)) (hsw:zaP V.length) (hsh:∀ z∈S,Has w (Ints z.a z.s.heights)) (hss:∀ z∈S,zaP z.s.heights.length) (hwo:∀ z∈V,Has w (zaW z.a 5 zba z.s.opens)) (hsv:∀ z∈V,zaP z.s.opens.length) (hcp:∀ z∈V,z.s.opens.length≤z.cap) (hkn:∀ z∈V,∀ o∈z.s.opens,Knd o) (hc:Has w (zaW ca 1 encS cs)) (hcs:zaP cs.length) (hcap:cs.length≤ccap) (hbd:Has w (zaW ba 6 zyr bs)) (hbs:zaP bs.length) (hpr:¬ prtE S V cs bs x frm to=0) :
  Calls Tryz.prog 23 #[.agg #[.slice a S.length cap,.slice b V.length bcap],.agg #[.slice ca cs.length ccap,.slice ba bs.length bcp],.agg #[.int .i64 x.wide,.int .i64 x.high,.int .i64 x.step,.int .i64 x.leap,.int .i64 x.reach],.int .i64 frm,.int .i64 to] w (Pure (.tuple #[.slice none 0 0,.slice none 0 0,.int .i64 (prtE S V cs bs x frm to)]) w):=by
 refine zan (vs:=[_,_,_,_,_]) Tryz.func23 rfl rfl (bL rfl) (gS (zaG rfl rfl (za3 (vs:=[_,_]) rfl rfl) fun b5=>(zaG rfl rfl (za3 (vs:=[_,_]) rfl rfl) fun b6=>(zaG rfl rfl (za3 (vs:=[_,_,_,_,_]) rfl rfl) fun b7=>(zaG rfl rfl (za3 (vs:=[_]) rfl rfl) fun b9=>(gA rfl (gA rfl (gA rfl (gN [3,5,6,7,9,10,11,12] rfl (gS (gQ (zat 3 tf37 rfl rfl (vs:=[_,_]) rfl rfl) (gQ (zat 2 tf40 rfl rfl (vs:=[_,_]) rfl rfl) (gQ (zat 1 tf41 rfl rfl (vs:=[_,_,_,_,_]) rfl rfl) (gM rfl (gQ (zah 0 tf3 rfl rfl rfl) (gQ (zaJ en54 rfl (fun w hw=>zD7 _ _ S _ _ V _ _ cs _ _ bs x frm to w (rH hl hw) hs hcS (rH hlw hw) hsw (fun z hz=>(rH (hsh z hz) hw)) hss (fun z hz=>(rH (hwo z hz) hw)) hsv hcp hkn (rH hc hw) hcs hcap (rH hbd hw) hbs hpr)) (gM rfl (gQ (zaB rfl rfl) (gQ (zaB rfl rfl) (zaG rfl rfl (zaL zzI (zs:=[_]) rfl) fun b13=>(zaA 0 zzI rfl rfl (vs:=[_]) rfl rfl rfl rfl rfl (gA rfl (gN [3,6,9,10,11,12,13] rfl (zac (gS (gM rfl (gQ (zcr rfl rfl) (gN [3,6,9,10,11,12,13,36] rfl (zap rfl (fun hc36=>?_) (fun hc36=>?_))))))))))))))))))))))))))))))
 ·simp only [nT,dF] at hc36
  refine gS (gM rfl (gA rfl (gA rfl (gA rfl (gN [3,6,9,10,11,12,13] rfl (zaw (zay (zdh rfl (zau rfl) (zau rfl) (zau rfl)) ?_)))))))
  rfl
 ·exfalso; exact hpr (by simpa using hc36)
theorem zE5 (a:Option Addr) (cap:Nat) (S:List ShC) (b:Option Addr) (bcap:Nat) (V:List WlC) (ca:Option Addr) (ccap:Nat) (cs:List ByteArray) (ba:Option Addr) (bcp:Nat) (bs:List Bdr) (x:Anm) (frm:Int) (w:World) (hl:Has w (zaW a 20 zbH S)) (hs:zaP S.length) (hcS:S.length≤cap) (hlw:Has w (zaW b 4 zbS V)) (hsw:zaP V.length) (hsh:∀ z∈S,Has w (Ints z.a z.s.heights)) (hss:∀ z∈S,zaP z.s.heights.length) (hwo:∀ z∈V,Has w (zaW z.a 5 zba z.s.opens)) (hsv:∀ z∈V,zaP z.s.opens.length) (hcp:∀ z∈V,z.s.opens.length≤z.cap) (hkn:∀ z∈V,∀ o∈z.s.opens,Knd o) (hc:Has w (zaW ca 1 encS cs)) (hcs:zaP cs.length) (hcap:cs.length≤ccap) (hbd:Has w (zaW ba 6 zyr bs)) (hbs:zaP bs.length) :
  Calls Tryz.prog 15 #[.agg #[.slice a S.length cap,.slice b V.length bcap],.agg #[.slice ca cs.length ccap,.slice ba bs.length bcp],.agg #[.int .i64 x.wide,.int .i64 x.high,.int .i64 x.step,.int .i64 x.leap,.int .i64 x.reach],.int .i64 frm] w (zcU (fun z:Option Addr×Nat=>.tuple #[.slice z.1 (rchA S V cs bs x frm).length z.2,.int .i64 (atE S V cs bs x [frm])]) (fun z=>Row z.1 1 z.2 3 Go.Stn.encI (rchA S V cs bs x frm)) w):=by
 by_cases hat:atE S V cs bs x [frm]=0
 ·have h:=zDf a cap S b bcap V ca ccap cs ba bcp bs x frm w hl hs hcS hlw hsw hsh hss hwo hsv hcp hkn hc hcs hcap hbd hbs hat
  rw [show(rchA S V cs bs x frm)=_ from if_pos hat,hat]; exact h
 ·have h:=zDe a cap S b bcap V ca ccap cs ba bcp bs x frm w hl hs hcS hlw hsw hsh hss hwo hsv hcp hkn hc hcs hcap hbd hbs hat
  have e:(rchA S V cs bs x frm)=[]:=if_neg hat
  exact h.mono fun e' w' h=>zAe (none,0) h (by rw [e]; rfl) (fun _=>by rw [e]; exact zAR)
theorem zAz (a:Option Addr) (cap:Nat) (S:List ShC) (b:Option Addr) (bcap:Nat) (V:List WlC) (ca:Option Addr) (ccap:Nat) (cs:List ByteArray) (ba:Option Addr) (bcp:Nat) (bs:List Bdr) (x:Anm) (i:Int) (back:Bool) (w:World) (hl:Has w (zaW a 20 zbH S)) (hs:zaP S.length) (hcS:S.length≤cap) (hlw:Has w (zaW b 4 zbS V)) (hsw:zaP V.length) (hsh:∀ z∈S,Has w (Ints z.a z.s.heights)) (hss:∀ z∈S,zaP z.s.heights.length) (hwo:∀ z∈V,Has w (zaW z.a 5 zba z.s.opens)) (hsv:∀ z∈V,zaP z.s.opens.length) (hcp:∀ z∈V,z.s.opens.length≤z.cap) (hkn:∀ z∈V,∀ o∈z.s.opens,Knd o) (hc:Has w (zaW ca 1 encS cs)) (hcs:zaP cs.length) (hcap:cs.length≤ccap) (hbd:Has w (zaW ba 6 zyr bs)) (hbs:zaP bs.length) :
  Calls Tryz.prog 24 #[.agg #[.slice a S.length cap,.slice b V.length bcap],.agg #[.slice ca cs.length ccap,.slice ba bs.length bcp],.agg #[.int .i64 x.wide,.int .i64 x.high,.int .i64 x.step,.int .i64 x.leap,.int .i64 x.reach],.int .i64 i,.bool back] w (Pure (.tuple #[.int .i64 (zyv S V cs bs x i back).way,.int .i64 (zyv S V cs bs x i back).eff,.int .i64 (zyv S V cs bs x i back).err]) w):=by
 by_cases hok:(zym S V cs bs x)=true
 ·exact zC6 a cap S b bcap V ca ccap cs ba bcp bs x i back w hl hs hcS hlw hsw hsh hss hwo hsv hcp hkn hc hcs hcap hbd hbs hok
 ·exact zC5 a cap S b bcap V ca ccap cs ba bcp bs x i back w hl hs hcS hlw hsw hsh hss hwo hsv hcp hkn hc hcs hcap hbd hbs hok
theorem zE7 (a:Option Addr) (cap:Nat) (S:List ShC) (b:Option Addr) (bcap:Nat) (V:List WlC) (ca:Option Addr) (ccap:Nat) (cs:List ByteArray) (ba:Option Addr) (bcp:Nat) (bs:List Bdr) (x:Anm) (w:World) (hl:Has w (zaW a 20 zbH S)) (hs:zaP S.length) (hcS:S.length≤cap) (hlw:Has w (zaW b 4 zbS V)) (hsw:zaP V.length) (hsh:∀ z∈S,Has w (Ints z.a z.s.heights)) (hss:∀ z∈S,zaP z.s.heights.length) (hwo:∀ z∈V,Has w (zaW z.a 5 zba z.s.opens)) (hsv:∀ z∈V,zaP z.s.opens.length) (hcp:∀ z∈V,z.s.opens.length≤z.cap) (hkn:∀ z∈V,∀ o∈z.s.opens,Knd o) (hc:Has w (zaW ca 1 encS cs)) (hcs:zaP cs.length) (hcap:cs.length≤ccap) (hbd:Has w (zaW ba 6 zyr bs)) (hbs:zaP bs.length) :
  Calls Tryz.prog 16 #[.agg #[.slice a S.length cap,.slice b V.length bcap],.agg #[.slice ca cs.length ccap,.slice ba bs.length bcp],.agg #[.int .i64 x.wide,.int .i64 x.high,.int .i64 x.step,.int .i64 x.leap,.int .i64 x.reach]] w (zcU (fun z:(Option Addr×Nat)×(Option Addr×Nat)=>.tuple #[.slice z.1.1 (smA S V cs bs x true).length z.1.2,.slice z.2.1 (smA S V cs bs x false).length z.2.2,.int .i64 (zBP S V cs bs x)]) (fun z=>SepR [Row z.1.1 2 z.1.2 130 zyQ (smA S V cs bs x true),Row z.2.1 2 z.2.2 130 zyQ (smA S V cs bs x false)]) w):=by
 by_cases hok:(zym S V cs bs x)=true
 ·have h:=zEl a cap S b bcap V ca ccap cs ba bcp bs x w hl hs hcS hlw hsw hsh hss hwo hsv hcp hkn hc hcs hcap hbd hbs hok
  rw [show(smA S V cs bs x true)=_ from if_pos hok,show(smA S V cs bs x false)=_ from if_pos hok,zBA hok]; exact h
 ·have h:=zEk a cap S b bcap V ca ccap cs ba bcp bs x w hl hs hcS hlw hsw hsh hss hwo hsv hcp hkn hc hcs hcap hbd hbs hok
  have e1:(smA S V cs bs x true)=[]:=if_neg hok
  have e2:(smA S V cs bs x false)=[]:=if_neg hok
  rw [zBz hok,e1,e2]
  exact h.mono fun e' w' h=>zAe ((none,0),(none,0)) h rfl (fun _=>zEg zAR zAR)
theorem zEF (a:Option Addr) (cap:Nat) (S:List ShC) (b:Option Addr) (bcap:Nat) (V:List WlC) (ca:Option Addr) (ccap:Nat) (cs:List ByteArray) (ba:Option Addr) (bcp:Nat) (bs:List Bdr) (x:Anm) (frm to:Int) (w:World) (hl:Has w (zaW a 20 zbH S)) (hs:zaP S.length) (hcS:S.length≤cap) (hlw:Has w (zaW b 4 zbS V)) (hsw:zaP V.length) (hsh:∀ z∈S,Has w (Ints z.a z.s.heights)) (hss:∀ z∈S,zaP z.s.heights.length) (hwo:∀ z∈V,Has w (zaW z.a 5 zba z.s.opens)) (hsv:∀ z∈V,zaP z.s.opens.length) (hcp:∀ z∈V,z.s.opens.length≤z.cap) (hkn:∀ z∈V,∀ o∈z.s.opens,Knd o) (hc:Has w (zaW ca 1 encS cs)) (hcs:zaP cs.length) (hcap:cs.length≤ccap) (hbd:Has w (zaW ba 6 zyr bs)) (hbs:zaP bs.length) :
  Calls Tryz.prog 23 #[.agg #[.slice a S.length cap,.slice b V.length bcap],.agg #[.slice ca cs.length ccap,.slice ba bs.length bcp],.agg #[.int .i64 x.wide,.int .i64 x.high,.int .i64 x.step,.int .i64 x.leap,.int .i64 x.reach],.int .i64 frm,.int .i64 to] w (zcU (fun z:(Option Addr×Nat)×(Option Addr×Nat)×List WkR=>.tuple #[.slice z.1.1 (clA S V cs bs x frm to).length z.1.2,.slice z.2.1.1 z.2.2.length z.2.1.2,.int .i64 (prtE S V cs bs x frm to)]) (fun z=>zDo (z.2.2.map (·.1)=(wkA S V cs bs x frm to)) (SepR [Row z.1.1 1 z.1.2 3 Go.Stn.encI (clA S V cs bs x frm to),Row z.2.1.1 1 z.2.1.2 78 zBI z.2.2,Go.K.Rows rowK z.2.2])) w):=by
 by_cases hpr:prtE S V cs bs x frm to=0
 ·have h:=zEH a cap S b bcap V ca ccap cs ba bcp bs x frm to w hl hs hcS hlw hsw hsh hss hwo hsv hcp hkn hc hcs hcap hbd hbs hpr
  rw [show(clA S V cs bs x frm to)=_ from if_pos hpr,show(wkA S V cs bs x frm to)=_ from if_pos hpr,hpr]; exact h
 ·have h:=zEG a cap S b bcap V ca ccap cs ba bcp bs x frm to w hl hs hcS hlw hsw hsh hss hwo hsv hcp hkn hc hcs hcap hbd hbs hpr
  have e1:(clA S V cs bs x frm to)=[]:=if_neg hpr
  have e2:(wkA S V cs bs x frm to)=[]:=if_neg hpr
  rw [e1,e2]
  exact h.mono fun e' w' h=>zAe ((none,0),(none,0),[]) h rfl (fun _=>⟨rfl,zEh zAR zAR zsb⟩)
theorem zCR:FO Tryz.prog 33 0 0:=fK
theorem zz0:FO Tryz.prog 33 1 2:=fK
theorem zAL:FO Tryz.prog 33 2 4:=fK
theorem af26:AF Tryz.prog 26 9 1 16 [.string ⟨#[]⟩]:=⟨Tryz.underlying26,by kernel_rfl,rfl⟩
theorem af38:AF Tryz.prog 38 64 6 56 [.int .i64 0,.int .i64 0,.string ⟨#[]⟩,.int .i64 0,.int .i64 0,.bool false]:=⟨Tryz.underlying38,by kernel_rfl,rfl⟩
theorem en42:En Tryz.prog 42:=eK Tryz.func42
theorem en43:En Tryz.prog 43:=eK Tryz.func43
theorem en51:En Tryz.prog 51:=eK Tryz.func51
theorem zFL (x0a:Option Addr) (x0n x0c:Nat) (w:World):(Instr.build 40 #[(0,.slice x0a x0n x0c)]).run Tryz.prog w=.ok (.agg #[.slice x0a x0n x0c,.slice none 0 0]) w:=by kernel_rfl
theorem zyE (x0 x1 x2 x3 x4:Int) (w:World):(Instr.build 41 #[(0,.int .i64 x0),(1,.int .i64 x1),(2,.int .i64 x2),(3,.int .i64 x3),(4,.int .i64 x4)]).run Tryz.prog w=.ok (.agg #[.int .i64 x0,.int .i64 x1,.int .i64 x2,.int .i64 x3,.int .i64 x4]) w:=by kernel_rfl
theorem zzo (x0 x1:Int) (x2:ByteArray) (x3 x4:Int) (x5:Bool) (w:World):(Instr.build 64 #[(0,.int .i64 x0),(1,.int .i64 x1),(2,.string x2),(3,.int .i64 x3),(4,.int .i64 x4),(5,.bool x5)]).run Tryz.prog w=.ok (.agg #[.int .i64 x0,.int .i64 x1,.string x2,.int .i64 x3,.int .i64 x4,.bool x5]) w:=by kernel_rfl
theorem zsE (x0_0 x0_1:Int) (x0_2:ByteArray) (x0_3 x0_4:Int) (x0_5:Bool) (w:World):(Instr.buildSlice 38 1 #[(0,.agg #[.int .i64 x0_0,.int .i64 x0_1,.string x0_2,.int .i64 x0_3,.int .i64 x0_4,.bool x0_5])]).run Tryz.prog w=.ok (.slice (some ⟨w.heap.size,0,none⟩) 1 1) (w.alloc (.cells (([⟨x0_0,x0_1,x0_2,x0_3,x0_4,x0_5⟩]:List (Bdr)).flatMap zyr).toArray 64)):=by kernel_rfl
theorem zG1 (a:Option Addr) (cap:Nat) (S:List ShC) (b:Option Addr) (bcap:Nat) (V:List WlC) (ca:Option Addr) (ccap:Nat) (cs:List ByteArray) (ba:Option Addr) (bcp:Nat) (bs:List Bdr) (x:Anm) (w:World) (hl:Has w (zaW a 20 zbH S)) (hs:S.length≤764877654104) (hlw:Has w (zaW b 4 zbS V)) (hsw:V.length≤2199023255552) (hsh:∀ z∈S,Has w (Ints z.a z.s.heights)) (hss:∀ z∈S,z.s.heights.length≤17592186044416) (hwo:∀ z∈V,Has w (zaW z.a 5 zba z.s.opens)) (hsv:∀ z∈V,z.s.opens.length≤3518437208883) (hfS:∀ z∈S,Fits z.s.name.size) (hc:Has w (zaW ca 1 encS cs)) (hcn:cs.length≤8796093022208) (hbd:Has w (zaW ba 6 zyr bs)) (hbn:bs.length≤2513169434915) :
  Calls Tryz.prog 13 #[.agg #[.slice a S.length cap,.slice b V.length bcap,.slice ca cs.length ccap,.slice ba bs.length bcp,.int .i64 x.wide,.int .i64 x.high,.int .i64 x.step,.int .i64 x.leap,.int .i64 x.reach]] w (zcU (fun z:((Option Addr×Nat×List ShC)×(Option Addr×Nat×List WlC))×(Option Addr×Nat)×(Option Addr×Nat)=>.tuple #[.agg #[.slice z.1.1.1 z.1.1.2.2.length z.1.1.2.1,.slice z.1.2.1 z.1.2.2.2.length z.1.2.2.1],.agg #[.slice z.2.1.1 cs.length z.2.1.2,.slice z.2.2.1 bs.length z.2.2.2],.agg #[.int .i64 x.wide,.int .i64 x.high,.int .i64 x.step,.int .i64 x.leap,.int .i64 x.reach],.bool (smlF S V cs bs)]) (fun z=>SepR [PlR yP z.1 ⟨S.map (·.s),V.map (·.s)⟩,Row z.2.1.1 1 z.2.1.2 9 encS cs,Row z.2.2.1 6 z.2.2.2 64 zyr bs]) w):=by
 refine zan (vs:=[_]) Tryz.func13 rfl rfl (bL rfl) (gS (zaG rfl rfl (za3 (vs:=[_,_,_,_,_,_,_,_,_]) rfl rfl) fun b1=>(zaG rfl rfl (zaL tf37 (zs:=[_,_]) rfl) fun b2=>(zaG rfl rfl (zaL tf40 (zs:=[_,_]) rfl) fun b3=>(zaG rfl rfl (zaL tf41 (zs:=[_,_,_,_,_]) rfl) fun b4=>(gA rfl (gN [1,2,3,4,5] rfl (gS (gQ (zab zz0 rfl) (gQ (zab zAp rfl) (gQ (zah 3 tf26 rfl rfl rfl) (zaG rfl rfl (zoJ (m:=cs) af26 ztJ rfl rfl (fun _=>rH hc) (by omega) (by unfold maxLen; omega)) fun z13=>(gQ (zaI rfl (zFL _ _ _)) (zaG rfl rfl (zaL tf40 (zs:=[_,_]) rfl) fun b6=>(zaA 0 tf40 rfl rfl (vs:=[_,_]) rfl rfl rfl rfl rfl (gN [1,2,3,4,5,6] rfl (zac (gS (gA rfl (gN [1,2,3,4,5,6,7] rfl (zas (zbB 64 zyr 6 ?_))))))))))))))))))))))
 refine zbf (X:=Int×Option Addr×Nat×List Bdr) (fun⟨i,ra,rc,N⟩=>[(1,.pointer (some ⟨b1,0,none⟩)),(2,.pointer (some ⟨b2,0,none⟩)),(3,.pointer (some ⟨b3,0,none⟩)),(4,.pointer (some ⟨b4,0,none⟩)),(5,.bool false),(6,.pointer (some ⟨b6,0,none⟩)),(7,.int .i64 i)]) (fun⟨i,ra,rc,N⟩=>[Row ra 6 rc 64 zyr N,Box b6 [.slice z13.1 cs.length z13.2,.slice ra N.length rc] 40,Row z13.1 1 z13.2 9 encS cs,Box b4 [.int .i64 0,.int .i64 0,.int .i64 0,.int .i64 0,.int .i64 0] 41,Box b3 [.slice none 0 0,.slice none 0 0] 40,Box b2 [.slice none 0 0,.slice none 0 0] 37,Box b1 [.slice a S.length cap,.slice b V.length bcap,.slice ca cs.length ccap,.slice ba bs.length bcp,.int .i64 x.wide,.int .i64 x.high,.int .i64 x.step,.int .i64 x.leap,.int .i64 x.reach] 33]) (fun⟨i,ra,rc,N⟩=>(0≤i∧i≤bs.length∧N=bs.take i.toNat)) (fun⟨i,ra,rc,N⟩=>(bs.length - i).toNat) (0,none,0,[]) (sB rfl) rfl ?_ ?_
 ·exact⟨by omega,by omega,rfl⟩
 ·rintro ⟨i,ra,rc,N⟩ hI
  obtain⟨g0,g1,g2⟩:=hI
  have hnl:N.length≤i.toNat:=by rw [g2,List.length_take]; omega
  refine zac (gS (gM rfl (gQ (zab zz0 rfl) (gQ (zab zzL rfl) (gQ (zah 6 tf27 rfl rfl rfl) (gQ (zaV (Tryz.underlying27) rfl) (gQ (zbw rfl rfl) (gN [1,2,3,4,5,6,7,20] rfl (zap rfl (fun hc20=>?_) (fun hc20=>?_))))))))))
  ·have hc20:=oT hc20
   refine zaq (zac (zas (gS (gQ (zab zz0 rfl) (gQ (zab zzL rfl) (gQ (zah 6 tf27 rfl rfl rfl) (gM rfl (gQ (zaE se27 rfl rfl (fun _=>rH hbd)) (gQ (zbv (vs:=[_,_,_,_,_,_]) zAU rfl (fun _=>rH hbd) (by omega) (by omega) rfl) (zaG rfl rfl (zaL zAU (zs:=[_,_,_,_,_,_]) rfl) fun b8=>(zaA 0 zAU rfl rfl (vs:=[_,_,_,_,_,_]) rfl rfl rfl rfl rfl (gN [1,2,3,4,5,6,7,8] rfl (zaa (gQ (zab zz1 rfl) (gQ (zah 2 tf38 rfl rfl rfl) (gQ (zab zCa rfl) (gQ (zah 0 tf3 rfl rfl rfl) (gQ (zab zCb rfl) (gQ (zah 0 tf3 rfl rfl rfl) (gQ (zab zCc rfl) (gQ (zah 0 tf9 rfl rfl rfl) (gQ (zab zCd rfl) (gQ (zah 0 tf3 rfl rfl rfl) (gQ (zab zCe rfl) (gQ (zah 0 tf3 rfl rfl rfl) (gQ (zab zCf rfl) (gQ (zah 0 tf4 rfl rfl rfl) (gQ (zaI rfl (zzo _ _ _ _ _ _)) (zaG rfl rfl (zaD rfl (zsE _ _ _ _ _ _) zyx rfl) fun b44=>?_)))))))))))))))))))))))))))))
   refine zb4 (m:=[(bs.getD (i).toNat default)]) 2 af38 zyx rfl rfl rfl rfl (fun _ hw=>(zam zyx (hw.has (p:=0) rfl))) (by first | omega | (simp only [lC,lN]; omega)) (by first | (unfold maxLen; omega) | (simp only [lC,lN,maxLen]; omega)) fun a45 c45=>(gQ (zab zz1 rfl) (zaA 3 tf38 rfl rfl (vs:=[_]) rfl rfl rfl rfl rfl (gN [1,2,3,4,5,6,7] rfl (zaa (gM rfl (gQ (zaY rfl rfl) (gA rfl (gN [1,2,3,4,5,6,7] rfl (zaK 0 rfl (zaK 0 rfl ?_))))))))))
   exact za1 (i+1,_,_,_) (sB rfl) rfl ⟨by omega,by omega,by rw [g2,zDi g0 hc20]⟩ (by simp only []; omega)
  ·have hc20:=oD hc20
   have hN:N=bs:=by rw [g2,List.take_of_length_le (by omega)]
   refine za8 rfl (gS (gQ (zab zAL rfl) (gQ (zab zeo rfl) (gQ (zah 6 tf3 rfl rfl rfl) (gQ (zab zAL rfl) (gQ (zab zd7 rfl) (gQ (zah 6 tf3 rfl rfl rfl) (gQ (zab zAL rfl) (gQ (zab zCQ rfl) (gQ (zah 6 tf3 rfl rfl rfl) (gQ (zab zAL rfl) (gQ (zab zA6 rfl) (gQ (zah 6 tf3 rfl rfl rfl) (gQ (zab zAL rfl) (gQ (zab zA7 rfl) (gQ (zah 6 tf3 rfl rfl rfl) (gQ (zaI rfl (zyE _ _ _ _ _)) (zaG rfl rfl (zaL tf41 (zs:=[_,_,_,_,_]) rfl) fun b9=>(zaA 0 tf41 rfl rfl (vs:=[_,_,_,_,_]) rfl rfl rfl rfl rfl (gN [1,2,3,4,5,6,9] rfl (zac (zao 4 rfl (zao 5 rfl (zao 6 rfl (zCs [_,_,_] (ch [(2,((Option Addr×Nat×List ShC)×(Option Addr×Nat×List WlC)))]) 1000 40 [0,1,3,0,0,0,32,103,231,487,999,2023,4071,8167,16359,32743,65511,131047,262119,524263,1048551,2097127,4194279,8388583,16777191,33554407,67108839,134217703,268435431,536870887,1073741799,2147483623,4294967271,8589934567,17179869159,34359738343,536870887,69256347631,206695301119,549755813887] [] rfl (fun _=>mixed) (by kernel_rfl) (zjK _ ⟨inferInstance,trivial⟩) ?_)))))))))))))))))))))))))
   refine pY (fun ρ=>zab zCR rfl) (pY (fun ρ=>zat (b:=b1) (cs:=[.slice a S.length cap,.slice b V.length bcap,.slice ca cs.length ccap,.slice ba bs.length bcp,.int .i64 x.wide,.int .i64 x.high,.int .i64 x.step,.int .i64 x.leap,.int .i64 x.reach]) (e:=33) 4 tf25 rfl (by kernel_rfl) (vs:=[_,_]) rfl rfl) (zFy (fun ρ=>zbm en42 rfl (fun w hw=>zue _ _ S _ _ V w (rH hl hw) (rH hlw hw) (fun z hz=>(rH (hsh z hz) hw)) hss (fun z hz=>(rH (hwo z hz) hw)) hsv hs hsw)) (fun ρ ρ' h=>⟨by rfl,by rfl⟩) (pY (fun ρ=>zat (b:=b6) (cs:=[.slice z13.1 cs.length z13.2,.slice ra N.length rc]) (e:=40) 2 tf40 rfl (by kernel_rfl) (vs:=[_,_]) rfl rfl) (pY (fun ρ=>zat (b:=b9) (cs:=[.int .i64 x.wide,.int .i64 x.high,.int .i64 x.step,.int .i64 x.leap,.int .i64 x.reach]) (e:=41) 0 tf41 rfl (by kernel_rfl) (vs:=[_,_,_,_,_]) rfl rfl) (pY (fun ρ=>zab zCR rfl) (pY (fun ρ=>zat (b:=b1) (cs:=[.slice a S.length cap,.slice b V.length bcap,.slice ca cs.length ccap,.slice ba bs.length bcp,.int .i64 x.wide,.int .i64 x.high,.int .i64 x.step,.int .i64 x.leap,.int .i64 x.reach]) (e:=33) 4 tf25 rfl (by kernel_rfl) (vs:=[_,_]) rfl rfl) (pY (fun ρ=>zaJ en43 rfl (fun w hw=>zuI _ _ S _ _ V w (rH hl hw) (by unfold zaP; omega) (rH hlw hw) (by omega) hfS)) (pY (fun ρ=>zaf rfl) ?_))))))))
   refine zH9 rfl (fun _=>rfl) rfl (fun hgd ρ=>by(try rw [hgd]); exact(zab zz0 rfl)) (fun ρ ρ' h=>by rfl) (zH9 rfl (fun _=>rfl) rfl (fun hgd ρ=>by(try rw [hgd]); exact(zab zAp rfl)) (fun ρ ρ' h=>by rfl) (zH9 rfl (fun _=>rfl) rfl (fun hgd ρ=>by(try rw [hgd]); exact(zah (b:=b1) (cs:=[.slice a S.length cap,.slice b V.length bcap,.slice ca cs.length ccap,.slice ba bs.length bcp,.int .i64 x.wide,.int .i64 x.high,.int .i64 x.step,.int .i64 x.leap,.int .i64 x.reach]) (e:=33) 5 tf26 rfl (by kernel_rfl) rfl)) (fun ρ ρ' h=>by rfl) (zH9 rfl (fun _=>rfl) rfl (fun hgd ρ=>by(try rw [hgd]); exact(zaV (Tryz.underlying26) rfl)) (fun ρ ρ' h=>by rfl) (zH9 rfl (fun _=>rfl) rfl (fun hgd ρ=>by(try rw [hgd]); exact(zeT rfl rfl)) (fun ρ ρ' h=>by rfl) (pY (fun ρ=>zaX rfl rfl rfl) (pY (fun ρ=>zaf rfl) (zH9 rfl (fun _=>rfl) rfl (fun hgd ρ=>by(try rw [hgd]); exact(zab zz0 rfl)) (fun ρ ρ' h=>by rfl) (zH9 rfl (fun _=>rfl) rfl (fun hgd ρ=>by(try rw [hgd]); exact(zab zzL rfl)) (fun ρ ρ' h=>by rfl) ?_))))))))
   refine zH9 rfl (fun _=>rfl) rfl (fun hgd ρ=>by(try rw [hgd]); exact(zah (b:=b1) (cs:=[.slice a S.length cap,.slice b V.length bcap,.slice ca cs.length ccap,.slice ba bs.length bcp,.int .i64 x.wide,.int .i64 x.high,.int .i64 x.step,.int .i64 x.leap,.int .i64 x.reach]) (e:=33) 5 tf27 rfl (by kernel_rfl) rfl)) (fun ρ ρ' h=>by rfl) (zH9 rfl (fun _=>rfl) rfl (fun hgd ρ=>by(try rw [hgd]); exact(zaV (Tryz.underlying27) rfl)) (fun ρ ρ' h=>by rfl) (zH9 rfl (fun _=>rfl) rfl (fun hgd ρ=>by(try rw [hgd]); exact(zeT rfl rfl)) (fun ρ ρ' h=>by rfl) (pY (fun ρ=>zaX rfl rfl rfl) (pY (fun ρ=>zaf rfl) (zH9 rfl (fun _=>rfl) rfl (fun hgd ρ=>by(try rw [hgd]); exact(zab zz0 rfl)) (fun ρ ρ' h=>by rfl) (zH9 rfl (fun _=>rfl) rfl (fun hgd ρ=>by(try rw [hgd]); exact(zab zzL rfl)) (fun ρ ρ' h=>by rfl) (zH9 rfl (fun _=>rfl) rfl (fun hgd ρ=>by(try rw [hgd]); exact(zah (b:=b1) (cs:=[.slice a S.length cap,.slice b V.length bcap,.slice ca cs.length ccap,.slice ba bs.length bcp,.int .i64 x.wide,.int .i64 x.high,.int .i64 x.step,.int .i64 x.leap,.int .i64 x.reach]) (e:=33) 5 tf27 rfl (by kernel_rfl) rfl)) (fun ρ ρ' h=>by rfl) (zH9 rfl (fun _=>rfl) rfl (fun hgd ρ=>by(try rw [hgd]); exact(zaV (Tryz.underlying27) rfl)) (fun ρ ρ' h=>by rfl) ?_))))))))
   refine zH9 rfl (fun _=>rfl) rfl (fun hgd ρ=>by(try rw [hgd]); exact(zeT rfl rfl)) (fun ρ ρ' h=>by rfl) (zH9 rfl (fun _=>rfl) rfl (fun hgd ρ=>by(try rw [hgd]); exact(zaf rfl)) (fun ρ ρ' h=>by rfl) (zIa rfl (fun _=>rfl) rfl (fun hgd ρ=>by(try rw [hgd]); exact(zab zz0 rfl)) (fun ρ ρ' h=>by rfl) (zIa rfl (fun _=>rfl) rfl (fun hgd ρ=>by(try rw [hgd]); exact(zab zzL rfl)) (fun ρ ρ' h=>by rfl) (zIa rfl (fun _=>rfl) rfl (fun hgd ρ=>by(try rw [hgd]); exact(zah (b:=b1) (cs:=[.slice a S.length cap,.slice b V.length bcap,.slice ca cs.length ccap,.slice ba bs.length bcp,.int .i64 x.wide,.int .i64 x.high,.int .i64 x.step,.int .i64 x.leap,.int .i64 x.reach]) (e:=33) 5 tf27 rfl (by kernel_rfl) rfl)) (fun ρ ρ' h=>by rfl) (zIa rfl (fun _=>rfl) rfl (fun hgd ρ=>by(try rw [hgd]); exact(zaV (Tryz.underlying27) rfl)) (fun ρ ρ' h=>by rfl) (zIa rfl (fun _=>rfl) rfl (fun hgd ρ=>by(try rw [hgd]); exact(zc6 rfl rfl)) (fun ρ ρ' h=>by rfl) (zH9 rfl (fun _=>rfl) rfl (fun hgd ρ=>by(try rw [hgd]); exact(zaR rfl rfl rfl)) (fun ρ ρ' h=>by rfl) (pY (fun ρ=>zaX rfl rfl rfl) ?_))))))))
   refine zBT (R:=fun ρ=>Box b2 [.slice none 0 0,.slice none 0 0] 37) (A:=fun ρ=>Box b2 [.slice (ρ 2).1.1 (ρ 2).1.2.2.length (ρ 2).1.2.1,.slice (ρ 2).2.1 (ρ 2).2.2.2.length (ρ 2).2.2.1] 37) 1000 rfl (by kernel_rfl) (by kernel_rfl) (fun _=>by kernel_rfl) (fun ρ=>zex tf37 rfl rfl (vs:=[_,_]) rfl rfl rfl rfl rfl) (fun ρ ρ' h=>by(first | rfl | (simp only [h 2 rfl]; done) | (simp only [h 2 rfl]; rfl))) (zBT (R:=fun ρ=>Box b3 [.slice none 0 0,.slice none 0 0] 40) (A:=fun ρ=>Box b3 [.slice z13.1 cs.length z13.2,.slice ra N.length rc] 40) 1001 rfl (by kernel_rfl) (by kernel_rfl) (fun _=>by kernel_rfl) (fun ρ=>zex tf40 rfl rfl (vs:=[_,_]) rfl rfl rfl rfl rfl) (fun ρ ρ' h=>by rfl) (zBT (R:=fun ρ=>Box b4 [.int .i64 0,.int .i64 0,.int .i64 0,.int .i64 0,.int .i64 0] 41) (A:=fun ρ=>Box b4 [.int .i64 x.wide,.int .i64 x.high,.int .i64 x.step,.int .i64 x.leap,.int .i64 x.reach] 41) 1002 rfl (by kernel_rfl) (by kernel_rfl) (fun _=>by kernel_rfl) (fun ρ=>zex tf41 rfl rfl (vs:=[_,_,_,_,_]) rfl rfl rfl rfl rfl) (fun ρ ρ' h=>by rfl) (pY (fun ρ=>zad rfl) ?_)))
   refine fun ρ=>zag (zf4 (X:=((Option Addr×Nat×List ShC)×(Option Addr×Nat×List WlC))) (ρ 2) (fun p65=>[(2,.pointer (some ⟨b2,0,none⟩)),(3,.pointer (some ⟨b3,0,none⟩)),(4,.pointer (some ⟨b4,0,none⟩)),(5,.bool ((((zgI S V)&&(decide ((cs.length:Int)≤45)))&&(decide ((bs.length:Int)≤90)))&&((decide ((bs.length:Int)≤20))||(decide (80 < (bs.length:Int))))))]) (fun p65=>[PlR yP p65 ⟨S.map (·.s),V.map (·.s)⟩,Box b2 [.slice p65.1.1 p65.1.2.2.length p65.1.2.1,.slice p65.2.1 p65.2.2.2.length p65.2.2.1] 37,Box b3 [.slice z13.1 cs.length z13.2,.slice ra N.length rc] 40,Box b4 [.int .i64 x.wide,.int .i64 x.high,.int .i64 x.step,.int .i64 x.leap,.int .i64 x.reach] 41,Box b9 [.int .i64 x.wide,.int .i64 x.high,.int .i64 x.step,.int .i64 x.leap,.int .i64 x.reach] 41,Row ra 6 rc 64 zyr N,Box b6 [.slice z13.1 cs.length z13.2,.slice ra N.length rc] 40,Row z13.1 1 z13.2 9 encS cs,Box b1 [.slice a S.length cap,.slice b V.length bcap,.slice ca cs.length ccap,.slice ba bs.length bcp,.int .i64 x.wide,.int .i64 x.high,.int .i64 x.step,.int .i64 x.leap,.int .i64 x.reach] 33]) ⟨rfl,rfl,rfl,rfl,trivial⟩ rfl ?_)
   rintro p65
   refine zaw (zao 5 rfl (zao 7 rfl (zao 2 rfl (zbT 3 (zbd (p65,(z13.1,z13.2),(ra,rc)) 0 (zGD rfl (zbU (i:=1) (vs:=[_,_]) tf37 rfl rfl rfl rfl) (zbU (i:=2) (vs:=[_,_]) tf40 rfl rfl rfl rfl) (zbU (i:=3) (vs:=[_,_,_,_,_]) tf41 rfl rfl rfl rfl) (zau rfl)) ?_ (by rw [hN]; rfl))))))
   rw [hN]; rfl
theorem zEO (a:Option Addr) (cap:Nat) (S:List ShC) (b:Option Addr) (bcap:Nat) (V:List WlC) (ca:Option Addr) (ccap:Nat) (cs:List ByteArray) (ba:Option Addr) (bcp:Nat) (bs:List Bdr) (x:Anm) (w:World) (hl:Has w (zaW a 20 zbH S)) (hs:zaP S.length) (hcS:S.length≤cap) (hlw:Has w (zaW b 4 zbS V)) (hsw:zaP V.length) (hsh:∀ z∈S,Has w (Ints z.a z.s.heights)) (hss:∀ z∈S,zaP z.s.heights.length) (hwo:∀ z∈V,Has w (zaW z.a 5 zba z.s.opens)) (hsv:∀ z∈V,zaP z.s.opens.length) (hcp:∀ z∈V,z.s.opens.length≤z.cap) (hkn:∀ z∈V,∀ o∈z.s.opens,Knd o) (hc:Has w (zaW ca 1 encS cs)) (hcs:zaP cs.length) (hcap:cs.length≤ccap) (hbd:Has w (zaW ba 6 zyr bs)) (hbs:zaP bs.length) (hfS:∀ z∈S,Fits z.s.name.size) (hfV:∀ z∈V,Fits z.s.name.size) (hco:∀ z∈S,0≤z.s.cope) (hcf:∀ z∈cs,Fits z.size) :
  Calls Tryz.prog 17 #[.agg #[.slice a S.length cap,.slice b V.length bcap,.slice ca cs.length ccap,.slice ba bs.length bcp,.int .i64 x.wide,.int .i64 x.high,.int .i64 x.step,.int .i64 x.leap,.int .i64 x.reach]] w (Pure (.bool (zym S V cs bs x)) w):=by
 refine zan (vs:=[_]) Tryz.func17 rfl rfl (bL rfl) (gS (zaG rfl rfl (za3 (vs:=[_,_,_,_,_,_,_,_,_]) rfl rfl) fun b1=>(gA rfl (gN [1,2] rfl (gS (gQ (zab zCR rfl) (gQ (zat 0 tf25 rfl rfl (vs:=[_,_]) rfl rfl) (gQ (zab zz0 rfl) (gQ (zat 0 tf29 rfl rfl (vs:=[_,_]) rfl rfl) (gQ (zab zAL rfl) (gQ (zat 0 tf31 rfl rfl (vs:=[_,_,_,_,_]) rfl rfl) (gQ (zaJ en51 rfl (fun w hw=>zEd _ _ S _ _ V _ _ cs _ _ bs x w (rH hl hw) hs hcS (rH hlw hw) hsw (fun z hz=>(rH (hsh z hz) hw)) hss (fun z hz=>(rH (hwo z hz) hw)) hsv hcp hkn (rH hc hw) hcs hcap (rH hbd hw) hbs hfS hfV hco hcf)) (gA rfl (gN [2] rfl (zaw (zay (zaC rfl (zau rfl)) ?_))))))))))))))))
 rfl
end Go.Proofs.YteepmmghanbllaaGreatDoor
namespace Go.Proofs.YteepmmghanbllaaGreatDoor
open Go Go.K Go.Stn Go.Pln Go.RowKit Go.Txt
theorem zkC {c:UInt8} {l:List UInt8} (h:l.all (fun x=>!(x == c))=true):∀ x∈l,x≠c:=fun x hx=>by
 have:=List.all_eq_true.1 h x hx
 simpa using this
theorem zbk {c:UInt8} {L:List UInt8} (k n:Nat) (h0:((L.drop k).take n).all (fun x=>!(x == c))=true) (h1:(L.drop k)[n]?=some c):cutL c (L.drop k)=(L.drop k).take n :: cutL c (L.drop (k+n+1)):=by
 obtain⟨h,h2⟩:=List.getElem?_eq_some_iff.1 h1
 have e:L.drop k=(L.drop k).take n++c :: L.drop (k+n+1):=by
  rw [←h2,show k+n+1=k+(n+1) from rfl,←List.drop_drop,←List.drop_eq_getElem_cons h,List.take_append_drop]
 conv=>lhs; rw [e]
 exact zhx (zkC h0)
theorem zui {W:List ByteArray} (h:0 < W.length):zdp W=.ok (W.getD 0 default,W.drop 1):=by
 cases W with
 | nil=>simp at h
 | cons x r=>rfl
theorem znw {W:List ByteArray} {k:Nat} (h:k < W.length):zdp (W.drop k)=.ok (W.getD k default,W.drop (k+1)):=by
 rw [List.drop_eq_getElem_cons h,gE,eG h]; rfl
theorem zuh {W:List ByteArray} {k:Nat} (h:k < W.length) (h1:zgx (W.getD k default)=true):zes (W.drop k)=.ok (W.getD k default,W.drop (k+1)):=by
 rw [zes,znw h,zak]; exact if_pos h1
theorem sayD {W:List ByteArray} {u:ByteArray} {k:Nat} (h:k < W.length) (h1:((W.getD k default).toList == u.toList)=true):sayE u (W.drop k)=.ok ((),W.drop (k+1)):=by
 rw [sayE,znw h,zak]; exact if_pos h1
theorem numD {W:List ByteArray} {k:Nat} {n:Int} (h:k < W.length) (h1:numW (W.getD k default)=true) (h2:zdO (W.getD k default)=n):numE (W.drop k)=.ok (n,W.drop (k+1)):=by
 rw [numE,znw h,zak,←h2]; exact if_pos h1
theorem zqd {W:List ByteArray} {k:Nat} {n:Int} (h:k < W.length) (h1:numW (W.getD k default)=true) (h2:zdO (W.getD k default)=n):zco 1 (W.drop k)=.ok ([n],W.drop (k+1)):=by
 rw [zco,numD h h1 h2]; rfl
theorem zqe {W:List ByteArray} {k m:Nat} {n:Int} {l:List Int} {r:List ByteArray} (h:k < W.length) (h1:numW (W.getD k default)=true) (h2:zdO (W.getD k default)=n) (h3:zco m (W.drop (k+1))=.ok (l,r)):zco (m+1) (W.drop k)=.ok (n :: l,r):=by
 rw [zco,numD h h1 h2,zak]
 show(zco m (W.drop (k+1)) >>= _)=_
 rw [h3]; rfl
theorem zs3 {W:List ByteArray} {k:Nat} {n n2:Int} (h:k+1 < W.length) (h1:numW (W.getD k default)=true) (h2:zdO (W.getD k default)=n) (h3:numW (W.getD (k+1) default)=true) (h4:zdO (W.getD (k+1) default)=n2):zco 2 (W.drop k)=.ok ([n,n2],W.drop (k+2)):=
 zqe (by omega) h1 h2 (zqd h h3 h4)
theorem zs4 {W:List ByteArray} {k:Nat} {n n2 n3:Int} (h:k+2 < W.length) (h1:numW (W.getD k default)=true) (h2:zdO (W.getD k default)=n) (h3:numW (W.getD (k+1) default)=true) (h4:zdO (W.getD (k+1) default)=n2) (h5:numW (W.getD (k+1+1) default)=true) (h6:zdO (W.getD (k+1+1) default)=n3):zco 3 (W.drop k)=.ok ([n,n2,n3],W.drop (k+3)):=
 zqe (by omega) h1 h2 (zs3 h h3 h4 h5 h6)
theorem zv9 {W:List ByteArray} {k:Nat} {n n2 n3 n4:Int} (h:k+3 < W.length) (h1:numW (W.getD k default)=true) (h2:zdO (W.getD k default)=n) (h3:numW (W.getD (k+1) default)=true) (h4:zdO (W.getD (k+1) default)=n2) (h5:numW (W.getD (k+1+1) default)=true) (h6:zdO (W.getD (k+1+1) default)=n3) (h7:numW (W.getD (k+1+1+1) default)=true) (h8:zdO (W.getD (k+1+1+1) default)=n4):zco 4 (W.drop k)=.ok ([n,n2,n3,n4],W.drop (k+4)):=
 zqe (by omega) h1 h2 (zs4 (by omega) h3 h4 h5 h6 h7 h8)
theorem zlm {W:List ByteArray} {u:ByteArray} {k:Nat} {n:Int} (h:k+1 < W.length) (h0:((W.getD k default).toList == u.toList)=true) (h1:numW (W.getD (k+1) default)=true) (h2:zdO (W.getD (k+1) default)=n):oneE u 1 (W.drop k)=.ok ([n],W.drop (k+2)):=by
 rw [oneE,sayD (by omega) h0,zak]; exact zqd h h1 h2
theorem zur {W:List ByteArray} {u:ByteArray} {k:Nat} {n n2:Int} (h:k+2 < W.length) (h0:((W.getD k default).toList == u.toList)=true) (h1:numW (W.getD (k+1) default)=true) (h2:zdO (W.getD (k+1) default)=n) (h3:numW (W.getD (k+1+1) default)=true) (h4:zdO (W.getD (k+1+1) default)=n2):oneE u 2 (W.drop k)=.ok ([n,n2],W.drop (k+3)):=by
 rw [oneE,sayD (by omega) h0,zak]; exact zs3 h h1 h2 h3 h4
theorem zpU {W:List ByteArray} {acc acc2:List Int} {k:Nat} (h:k < W.length) (h1:((W.getD k default).toList == wLeast.toList)=false) (h2:numW (W.getD k default)=true) (h3:acc++[zdO (W.getD k default)]=acc2):zbF acc (W.drop k)=zbF acc2 (W.drop (k+1)):=by
 rw [gE,eG h,Option.getD_some] at h1 h2 h3
 rw [List.drop_eq_getElem_cons h,zbF,if_neg (by rw [show(W[k].toList == wLeast.toList)=false from h1]; exact fT),if_pos h2,←h3]
theorem zt1 {W:List ByteArray} {acc:List Int} {k:Nat} (h:k < W.length) (h1:((W.getD k default).toList == wLeast.toList)=true):zbF acc (W.drop k)=.ok (acc,W.drop k):=by
 rw [gE,eG h,Option.getD_some] at h1
 rw [List.drop_eq_getElem_cons h,zbF,if_pos h1]
theorem zv4 {W l:List ByteArray} {f k:Nat} {n:Int} (h:k < W.length) (h1:¬ zbJ (fun y=>(W.getD k default).toList == y.toList) (l.drop f) < 0∧zbJ (fun y=>(W.getD k default).toList == y.toList) (l.drop f)+f=n):zfk l f (W.drop k)=.ok (n,W.drop (k+1)):=by
 rw [zfk,znw h,zak,←h1.2]; exact if_neg h1.1
noncomputable def dB:List UInt8:=daleT.data.toList
noncomputable def dQ0:List UInt8:=(dB.drop 0).take 170
theorem dct0:cutL 10 (dB.drop 0)=dQ0 :: cutL 10 (dB.drop 171):=zbk 0 170 (by decide +kernel) (by decide +kernel)
noncomputable def dQ1:List UInt8:=(dB.drop 171).take 20
theorem dct1:cutL 10 (dB.drop 171)=dQ1 :: cutL 10 (dB.drop 192):=zbk 171 20 (by decide +kernel) (by decide +kernel)
noncomputable def dQ2:List UInt8:=(dB.drop 192).take 25
theorem dct2:cutL 10 (dB.drop 192)=dQ2 :: cutL 10 (dB.drop 218):=zbk 192 25 (by decide +kernel) (by decide +kernel)
theorem dct3:cutL 10 (dB.drop 218)=[dB.drop 218]:=zeD (zkC (by decide +kernel))
theorem zob:zcb daleT=[mkB dQ0,mkB dQ1,mkB dQ2]:=by
 unfold zcb
 rw [zcT]
 show zfN ((cutL 10 (dB.drop 0)).map mkB)=_
 rw [dct0,dct1,dct2,dct3]
 show zfN [mkB dQ0,mkB dQ1,mkB dQ2,mkB (dB.drop 218)]=_
 rw [zfN,zfN,zfN,zfN,if_pos (by decide +kernel)]
theorem zwD:cutL 32 (dQ0.drop 0)=(dQ0.drop 0).take 5 :: cutL 32 (dQ0.drop 6):=zbk 0 5 (by decide +kernel) (by decide +kernel)
theorem zwE:cutL 32 (dQ0.drop 6)=(dQ0.drop 6).take 4 :: cutL 32 (dQ0.drop 11):=zbk 6 4 (by decide +kernel) (by decide +kernel)
theorem zwF:cutL 32 (dQ0.drop 11)=(dQ0.drop 11).take 4 :: cutL 32 (dQ0.drop 16):=zbk 11 4 (by decide +kernel) (by decide +kernel)
theorem zwG:cutL 32 (dQ0.drop 16)=(dQ0.drop 16).take 3 :: cutL 32 (dQ0.drop 20):=zbk 16 3 (by decide +kernel) (by decide +kernel)
theorem zwH:cutL 32 (dQ0.drop 20)=(dQ0.drop 20).take 6 :: cutL 32 (dQ0.drop 27):=zbk 20 6 (by decide +kernel) (by decide +kernel)
theorem zwI:cutL 32 (dQ0.drop 27)=(dQ0.drop 27).take 3 :: cutL 32 (dQ0.drop 31):=zbk 27 3 (by decide +kernel) (by decide +kernel)
theorem zwJ:cutL 32 (dQ0.drop 31)=(dQ0.drop 31).take 6 :: cutL 32 (dQ0.drop 38):=zbk 31 6 (by decide +kernel) (by decide +kernel)
theorem zwK:cutL 32 (dQ0.drop 38)=(dQ0.drop 38).take 4 :: cutL 32 (dQ0.drop 43):=zbk 38 4 (by decide +kernel) (by decide +kernel)
theorem zwL:cutL 32 (dQ0.drop 43)=(dQ0.drop 43).take 4 :: cutL 32 (dQ0.drop 48):=zbk 43 4 (by decide +kernel) (by decide +kernel)
theorem zwM:cutL 32 (dQ0.drop 48)=(dQ0.drop 48).take 3 :: cutL 32 (dQ0.drop 52):=zbk 48 3 (by decide +kernel) (by decide +kernel)
theorem zvr:cutL 32 (dQ0.drop 52)=(dQ0.drop 52).take 7 :: cutL 32 (dQ0.drop 60):=zbk 52 7 (by decide +kernel) (by decide +kernel)
theorem zvs:cutL 32 (dQ0.drop 60)=(dQ0.drop 60).take 3 :: cutL 32 (dQ0.drop 64):=zbk 60 3 (by decide +kernel) (by decide +kernel)
theorem zvt:cutL 32 (dQ0.drop 64)=(dQ0.drop 64).take 3 :: cutL 32 (dQ0.drop 68):=zbk 64 3 (by decide +kernel) (by decide +kernel)
theorem zvu:cutL 32 (dQ0.drop 68)=(dQ0.drop 68).take 5 :: cutL 32 (dQ0.drop 74):=zbk 68 5 (by decide +kernel) (by decide +kernel)
theorem zvv:cutL 32 (dQ0.drop 74)=(dQ0.drop 74).take 2 :: cutL 32 (dQ0.drop 77):=zbk 74 2 (by decide +kernel) (by decide +kernel)
theorem zvw:cutL 32 (dQ0.drop 77)=(dQ0.drop 77).take 3 :: cutL 32 (dQ0.drop 81):=zbk 77 3 (by decide +kernel) (by decide +kernel)
theorem zvx:cutL 32 (dQ0.drop 81)=(dQ0.drop 81).take 2 :: cutL 32 (dQ0.drop 84):=zbk 81 2 (by decide +kernel) (by decide +kernel)
theorem zvy:cutL 32 (dQ0.drop 84)=(dQ0.drop 84).take 3 :: cutL 32 (dQ0.drop 88):=zbk 84 3 (by decide +kernel) (by decide +kernel)
theorem zvz:cutL 32 (dQ0.drop 88)=(dQ0.drop 88).take 1 :: cutL 32 (dQ0.drop 90):=zbk 88 1 (by decide +kernel) (by decide +kernel)
theorem zvA:cutL 32 (dQ0.drop 90)=(dQ0.drop 90).take 7 :: cutL 32 (dQ0.drop 98):=zbk 90 7 (by decide +kernel) (by decide +kernel)
theorem zvB:cutL 32 (dQ0.drop 98)=(dQ0.drop 98).take 3 :: cutL 32 (dQ0.drop 102):=zbk 98 3 (by decide +kernel) (by decide +kernel)
theorem zvC:cutL 32 (dQ0.drop 102)=(dQ0.drop 102).take 3 :: cutL 32 (dQ0.drop 106):=zbk 102 3 (by decide +kernel) (by decide +kernel)
theorem zvD:cutL 32 (dQ0.drop 106)=(dQ0.drop 106).take 7 :: cutL 32 (dQ0.drop 114):=zbk 106 7 (by decide +kernel) (by decide +kernel)
theorem zvE:cutL 32 (dQ0.drop 114)=(dQ0.drop 114).take 3 :: cutL 32 (dQ0.drop 118):=zbk 114 3 (by decide +kernel) (by decide +kernel)
theorem zvF:cutL 32 (dQ0.drop 118)=(dQ0.drop 118).take 3 :: cutL 32 (dQ0.drop 122):=zbk 118 3 (by decide +kernel) (by decide +kernel)
theorem zvG:cutL 32 (dQ0.drop 122)=(dQ0.drop 122).take 4 :: cutL 32 (dQ0.drop 127):=zbk 122 4 (by decide +kernel) (by decide +kernel)
theorem zvH:cutL 32 (dQ0.drop 127)=(dQ0.drop 127).take 4 :: cutL 32 (dQ0.drop 132):=zbk 127 4 (by decide +kernel) (by decide +kernel)
theorem zvI:cutL 32 (dQ0.drop 132)=(dQ0.drop 132).take 3 :: cutL 32 (dQ0.drop 136):=zbk 132 3 (by decide +kernel) (by decide +kernel)
theorem zvJ:cutL 32 (dQ0.drop 136)=(dQ0.drop 136).take 3 :: cutL 32 (dQ0.drop 140):=zbk 136 3 (by decide +kernel) (by decide +kernel)
theorem zvK:cutL 32 (dQ0.drop 140)=(dQ0.drop 140).take 3 :: cutL 32 (dQ0.drop 144):=zbk 140 3 (by decide +kernel) (by decide +kernel)
theorem zvL:cutL 32 (dQ0.drop 144)=(dQ0.drop 144).take 8 :: cutL 32 (dQ0.drop 153):=zbk 144 8 (by decide +kernel) (by decide +kernel)
theorem zvM:cutL 32 (dQ0.drop 153)=(dQ0.drop 153).take 3 :: cutL 32 (dQ0.drop 157):=zbk 153 3 (by decide +kernel) (by decide +kernel)
theorem zvN:cutL 32 (dQ0.drop 157)=(dQ0.drop 157).take 3 :: cutL 32 (dQ0.drop 161):=zbk 157 3 (by decide +kernel) (by decide +kernel)
theorem zvO:cutL 32 (dQ0.drop 161)=(dQ0.drop 161).take 4 :: cutL 32 (dQ0.drop 166):=zbk 161 4 (by decide +kernel) (by decide +kernel)
theorem zvP:cutL 32 (dQ0.drop 166)=[dQ0.drop 166]:=zeD (zkC (by decide +kernel))
noncomputable def dW0:List ByteArray:=[mkB ((dQ0.drop 0).take 5),mkB ((dQ0.drop 6).take 4),mkB ((dQ0.drop 11).take 4),mkB ((dQ0.drop 16).take 3),mkB ((dQ0.drop 20).take 6),mkB ((dQ0.drop 27).take 3),mkB ((dQ0.drop 31).take 6),mkB ((dQ0.drop 38).take 4),mkB ((dQ0.drop 43).take 4),mkB ((dQ0.drop 48).take 3),mkB ((dQ0.drop 52).take 7),mkB ((dQ0.drop 60).take 3),mkB ((dQ0.drop 64).take 3),mkB ((dQ0.drop 68).take 5),mkB ((dQ0.drop 74).take 2),mkB ((dQ0.drop 77).take 3),mkB ((dQ0.drop 81).take 2),mkB ((dQ0.drop 84).take 3),mkB ((dQ0.drop 88).take 1),mkB ((dQ0.drop 90).take 7),mkB ((dQ0.drop 98).take 3),mkB ((dQ0.drop 102).take 3),mkB ((dQ0.drop 106).take 7),mkB ((dQ0.drop 114).take 3),mkB ((dQ0.drop 118).take 3),mkB ((dQ0.drop 122).take 4),mkB ((dQ0.drop 127).take 4),mkB ((dQ0.drop 132).take 3),mkB ((dQ0.drop 136).take 3),mkB ((dQ0.drop 140).take 3),mkB ((dQ0.drop 144).take 8),mkB ((dQ0.drop 153).take 3),mkB ((dQ0.drop 157).take 3),mkB ((dQ0.drop 161).take 4),mkB (dQ0.drop 166)]
theorem zvh:zcn (mkB dQ0) 32=dW0:=by
 rw [zcT]
 show(cutL 32 (dQ0.drop 0)).map mkB=_
 rw [zwD,zwE,zwF,zwG,zwH,zwI,zwJ,zwK,zwL,zwM,zvr,zvs,zvt,zvu,zvv,zvw,zvx,zvy,zvz,zvA,zvB,zvC,zvD,zvE,zvF,zvG,zvH,zvI,zvJ,zvK,zvL,zvM,zvN,zvO,zvP]
 rfl
theorem zxn:idle (mkB dQ0)=false:=by decide +kernel
theorem zwN:cutL 32 (dQ1.drop 0)=(dQ1.drop 0).take 4 :: cutL 32 (dQ1.drop 5):=zbk 0 4 (by decide +kernel) (by decide +kernel)
theorem zwO:cutL 32 (dQ1.drop 5)=(dQ1.drop 5).take 5 :: cutL 32 (dQ1.drop 11):=zbk 5 5 (by decide +kernel) (by decide +kernel)
theorem zwP:cutL 32 (dQ1.drop 11)=(dQ1.drop 11).take 4 :: cutL 32 (dQ1.drop 16):=zbk 11 4 (by decide +kernel) (by decide +kernel)
theorem zwQ:cutL 32 (dQ1.drop 16)=[dQ1.drop 16]:=zeD (zkC (by decide +kernel))
noncomputable def dW1:List ByteArray:=[mkB ((dQ1.drop 0).take 4),mkB ((dQ1.drop 5).take 5),mkB ((dQ1.drop 11).take 4),mkB (dQ1.drop 16)]
theorem zvi:zcn (mkB dQ1) 32=dW1:=by
 rw [zcT]
 show(cutL 32 (dQ1.drop 0)).map mkB=_
 rw [zwN,zwO,zwP,zwQ]
 rfl
theorem zxo:idle (mkB dQ1)=false:=by decide +kernel
theorem zwR:cutL 32 (dQ2.drop 0)=(dQ2.drop 0).take 4 :: cutL 32 (dQ2.drop 5):=zbk 0 4 (by decide +kernel) (by decide +kernel)
theorem zwS:cutL 32 (dQ2.drop 5)=(dQ2.drop 5).take 5 :: cutL 32 (dQ2.drop 11):=zbk 5 5 (by decide +kernel) (by decide +kernel)
theorem zwT:cutL 32 (dQ2.drop 11)=(dQ2.drop 11).take 4 :: cutL 32 (dQ2.drop 16):=zbk 11 4 (by decide +kernel) (by decide +kernel)
theorem zwU:cutL 32 (dQ2.drop 16)=(dQ2.drop 16).take 3 :: cutL 32 (dQ2.drop 20):=zbk 16 3 (by decide +kernel) (by decide +kernel)
theorem zwV:cutL 32 (dQ2.drop 20)=(dQ2.drop 20).take 1 :: cutL 32 (dQ2.drop 22):=zbk 20 1 (by decide +kernel) (by decide +kernel)
theorem zwW:cutL 32 (dQ2.drop 22)=[dQ2.drop 22]:=zeD (zkC (by decide +kernel))
noncomputable def dW2:List ByteArray:=[mkB ((dQ2.drop 0).take 4),mkB ((dQ2.drop 5).take 5),mkB ((dQ2.drop 11).take 4),mkB ((dQ2.drop 16).take 3),mkB ((dQ2.drop 20).take 1),mkB (dQ2.drop 22)]
theorem zvj:zcn (mkB dQ2) 32=dW2:=by
 rw [zcT]
 show(cutL 32 (dQ2.drop 0)).map mkB=_
 rw [zwR,zwS,zwT,zwU,zwV,zwW]
 rfl
theorem zxp:idle (mkB dQ2)=false:=by decide +kernel
theorem dn0:zes (dW0.drop 1)=.ok ((mkB ((dQ0.drop 6).take 4)),dW0.drop 2):=zuh (by decide) (by decide +kernel)
theorem zwz:oneE ⟨#[98,97,115,101]⟩ 1 (dW0.drop 2)=.ok ([700],dW0.drop 4):=zlm (by decide) (by decide +kernel) (by decide +kernel) (by decide +kernel)
theorem ztC:oneE ⟨#[98,97,116,116,101,114]⟩ 1 (dW0.drop 4)=.ok ([100],dW0.drop 6):=zlm (by decide) (by decide +kernel) (by decide +kernel) (by decide +kernel)
theorem ztD:oneE ⟨#[104,101,105,103,104,116]⟩ 1 (dW0.drop 6)=.ok ([1200],dW0.drop 8):=zlm (by decide) (by decide +kernel) (by decide +kernel) (by decide +kernel)
theorem zwX:oneE ⟨#[115,107,105,110]⟩ 1 (dW0.drop 8)=.ok ([250],dW0.drop 10):=zlm (by decide) (by decide +kernel) (by decide +kernel) (by decide +kernel)
theorem zrm:sayE ⟨#[104,101,105,103,104,116,115]⟩ (dW0.drop 10)=.ok ((),dW0.drop 11):=sayD (by decide) (by decide +kernel)
theorem dh0:zbF [] (dW0.drop 11)=zbF [200] (dW0.drop 12):=zpU (by decide) (by decide +kernel) (by decide +kernel) (by decide +kernel)
theorem dh1:zbF [200] (dW0.drop 12)=zbF [200,180] (dW0.drop 13):=zpU (by decide) (by decide +kernel) (by decide +kernel) (by decide +kernel)
theorem dhe:zbF [200,180] (dW0.drop 13)=.ok ([200,180],dW0.drop 13):=zt1 (by decide) (by decide +kernel)
theorem dhs:zbF [] (dW0.drop 11)=.ok ([200,180],dW0.drop 13):=by rw [dh0,dh1,dhe]
theorem zvm:oneE ⟨#[108,101,97,115,116]⟩ 1 (dW0.drop 13)=.ok ([60],dW0.drop 15):=zlm (by decide) (by decide +kernel) (by decide +kernel) (by decide +kernel)
theorem dlap:oneE ⟨#[108,97,112]⟩ 1 (dW0.drop 15)=.ok ([60],dW0.drop 17):=zlm (by decide) (by decide +kernel) (by decide +kernel) (by decide +kernel)
theorem drun:oneE ⟨#[114,117,110]⟩ 1 (dW0.drop 17)=.ok ([2],dW0.drop 19):=zlm (by decide) (by decide +kernel) (by decide +kernel) (by decide +kernel)
theorem zrn:oneE ⟨#[116,104,114,111,117,103,104]⟩ 2 (dW0.drop 19)=.ok ([900,500],dW0.drop 22):=zur (by decide) (by decide +kernel) (by decide +kernel) (by decide +kernel) (by decide +kernel) (by decide +kernel)
theorem zrl:oneE ⟨#[102,111,111,116,105,110,103]⟩ 2 (dW0.drop 22)=.ok ([200,100],dW0.drop 25):=zur (by decide) (by decide +kernel) (by decide +kernel) (by decide +kernel) (by decide +kernel) (by decide +kernel)
theorem zwA:sayE ⟨#[99,111,112,101]⟩ (dW0.drop 25)=.ok ((),dW0.drop 26):=sayD (by decide) (by decide +kernel)
theorem zwB:zfk zeZ 0 (dW0.drop 26)=.ok (3,dW0.drop 27):=zv4 (by decide) (by decide +kernel)
theorem dc3:zco 3 (dW0.drop 27)=.ok ([300,200,150],dW0.drop 30):=zs4 (by decide) (by decide +kernel) (by decide +kernel) (by decide +kernel) (by decide +kernel) (by decide +kernel) (by decide +kernel)
theorem zpg:oneE ⟨#[102,114,105,99,116,105,111,110]⟩ 2 (dW0.drop 30)=.ok ([500,700],dW0.drop 33):=zur (by decide) (by decide +kernel) (by decide +kernel) (by decide +kernel) (by decide +kernel) (by decide +kernel)
theorem zwC:oneE ⟨#[114,111,111,100]⟩ 1 (dW0.drop 33)=.ok ([6000],dW0.drop 35):=zlm (by decide) (by decide +kernel) (by decide +kernel) (by decide +kernel)
noncomputable def dSh:Sht:=⟨(mkB ((dQ0.drop 6).take 4)),700,100,1200,250,[200,180],60,60,2,900,500,200,100,3,300,200,150,500,700,6000⟩
theorem zvQ:zci (dW0.drop 1)=.ok (dSh,dW0.drop 35):=by
 unfold zci
 simp only [dn0,zwz,ztC,ztD,zwX,zrm,dhs,zvm,dlap,drun,zrn,zrl,zwA,zwB,dc3,zpg,zwC,zak]
 rfl
theorem zpj:za4 dSh=true:=by decide +kernel
theorem zvn:zcu ⟨[],[]⟩ ((mkB dQ0))=.ok ⟨[dSh],[]⟩:=by
 have h1:zff ⟨[],[]⟩ (mkB ((dQ0.drop 0).take 5)) (dW0.drop 1)=zb3 ⟨[],[]⟩ (dW0.drop 1):=if_pos (by decide +kernel)
 have h2:endE (dW0.drop 35)=.ok ((),dW0.drop 35):=if_pos (by decide)
 unfold zcu
 rw [zvh,zui (W:=dW0) (by decide),zak]
 show zff ⟨[],[]⟩ (mkB ((dQ0.drop 0).take 5)) (dW0.drop 1)=_
 rw [h1]
 unfold zb3
 simp only [zvQ,zak,h2]
 rw [if_neg (by decide),if_pos zpj]
 rfl
noncomputable def dWl0:Wll:=⟨(mkB ((dQ1.drop 5).take 5)),(mkB ((dQ1.drop 11).take 4)),3000,[]⟩
theorem zvo:zcu ⟨[dSh],[]⟩ ((mkB dQ1))=.ok ⟨[dSh],[dWl0]⟩:=by
 have h1:zff ⟨[dSh],[]⟩ (mkB ((dQ1.drop 0).take 4)) (dW1.drop 1)=zb1 ⟨[dSh],[]⟩ (dW1.drop 1):=(if_neg (by decide +kernel)).trans (if_pos (by decide +kernel))
 have h2:zes (dW1.drop 1)=.ok ((mkB ((dQ1.drop 5).take 5)),dW1.drop 2):=zuh (by decide) (by decide +kernel)
 have h3:zes (dW1.drop 2)=.ok ((mkB ((dQ1.drop 11).take 4)),dW1.drop 3):=zuh (by decide) (by decide +kernel)
 have h4:zco 1 (dW1.drop 3)=.ok ([3000],dW1.drop 4):=zqd (by decide) (by decide +kernel) (by decide +kernel)
 have h5:endE (dW1.drop 4)=.ok ((),dW1.drop 4):=if_pos (by decide)
 unfold zcu
 rw [zvi,zui (W:=dW1) (by decide),zak]
 show zff ⟨[dSh],[]⟩ (mkB ((dQ1.drop 0).take 4)) (dW1.drop 1)=_
 rw [h1]
 unfold zb1
 simp only [h2,h3,h4,h5,zak]
 rw [if_neg (by decide),if_pos (by decide +kernel),if_pos (by decide +kernel)]
 rfl
def dOp:Opn:=⟨1,1000,250,0,220⟩
noncomputable def dWl:Wll:=more dWl0 dOp
theorem zvp:zcu ⟨[dSh],[dWl0]⟩ ((mkB dQ2))=.ok ⟨[dSh],[dWl]⟩:=by
 have h1:zff ⟨[dSh],[dWl0]⟩ (mkB ((dQ2.drop 0).take 4)) (dW2.drop 1)=zch ⟨[dSh],[dWl0]⟩ (dW2.drop 1):=(if_neg (by decide +kernel)).trans ((if_neg (by decide +kernel)).trans (if_pos (by decide +kernel)))
 have h2:zfk opensW 1 (dW2.drop 1)=.ok (1,dW2.drop 2):=zv4 (by decide) (by decide +kernel)
 have h3:zco 4 (dW2.drop 2)=.ok ([1000,250,0,220],dW2.drop 6):=zv9 (by decide) (by decide +kernel) (by decide +kernel) (by decide +kernel) (by decide +kernel) (by decide +kernel) (by decide +kernel) (by decide +kernel) (by decide +kernel)
 have h5:endE (dW2.drop 6)=.ok ((),dW2.drop 6):=if_pos (by decide)
 have h6:zd1 (getS [dSh] dWl0.sheet).height (more dWl0 dOp)=true:=by decide +kernel
 unfold zcu
 rw [zvj,zui (W:=dW2) (by decide),zak]
 show zff ⟨[dSh],[dWl0]⟩ (mkB ((dQ2.drop 0).take 4)) (dW2.drop 1)=_
 rw [h1]
 unfold zch
 simp only [h2,h3,h5,zak]
 exact(if_neg (by decide)).trans (if_pos h6)
theorem zgT:zgA daleT=(⟨[dSh],[dWl]⟩,0,0):=by
 refine zkf (by have:=zpe; omega) ?_
 rw [zob,zhB zxn zvn,zhB zxo zvo,zhB zxp zvp]
 rfl
end Go.Proofs.YteepmmghanbllaaGreatDoor
namespace Go.Proofs.YteepmmghanbllaaGreatDoor
open Go.K Go.Stn Go.Pln Go.Fld Go.RowKit
theorem zdB {c:Cx} {ds:List Deferred} {H:List Res} {T:List (Nat×Value)} {o:Oper} {b b':Bool} (h:Y c ds H T o (.bool b)) (hb:b=b'):Y c ds H T o (.bool b'):=by subst hb; exact h
theorem zjk {c:Cx} {ds:List Deferred} {T:List (Nat×Value)} {H:List Res} {K:Act→World→Prop} {y:PTy} {ra:Option Addr} {rc:Nat} {S:List ShC} {rb:Option Addr} {rd:Nat} {V:List WlC} {q:Plan}
  (h:S.map (·.s)=q.S→V.map (·.s)=q.V→GK c ds K T (Row ra 20 rc y.s zbH S :: Go.K.Rows (rowH y.i) S :: Row rb 4 rd y.w zbS V :: Go.K.Rows (rowO y.o) V :: H)):GK c ds K T (PlR y ((ra,rc,S),(rb,rd,V)) q :: H):=by
 intro a w ha hw
 obtain⟨hb,B,hB,⟨h1,h2,h3⟩,hr⟩:=hw
 exact h h1 h2 a w ha (Hp.split (L:=[_,_,_,_]) ⟨hb,B,hB,h3,hr⟩)
theorem zp7 {α β:Type} {f:α→β} {l:List α} {x:β} (h:l.map f=[x]):∃ y,l=[y]∧f y=x:=by
 cases l with
 | nil=>cases h
 | cons y r=>
  cases r with
  | nil=>rw [List.map_cons,List.map_nil,List.cons.injEq] at h; exact⟨y,rfl,h.1⟩
  | cons z t=>rw [List.map_cons,List.map_cons] at h; cases h
abbrev wkC:List ByteArray:=[⟨#[109,111,111,114]⟩,⟨#[99,114,111,102,116]⟩]
abbrev wkB:List Bdr:=[⟨0,1,⟨#[110,111,114,116,104]⟩,0,0,false⟩]
abbrev wkH:Anm:=⟨150,200,100,600,300⟩
abbrev wkE:Anm:=⟨400,700,250,1100,600⟩
section
variable {z0:ShC} {v0:WlC} (hz:z0.s=dSh) (hv:v0.s=dWl)
include hz hv
theorem zBC:zym [z0] [v0] wkC wkB wkH=true∧zym [z0] [v0] wkC wkB wkE=true:=by
 obtain⟨s,a,c⟩:=z0; obtain⟨v,b,d⟩:=v0
 simp only at hz hv; subst hz hv
 exact⟨by kernel_rfl,by kernel_rfl⟩
theorem zGL:zyj [z0] [v0] wkB wkH=[(⟨0,1,0,0,1⟩,⟨1,0,0,0,1⟩)]:=by
 obtain⟨s,a,c⟩:=z0; obtain⟨v,b,d⟩:=v0
 simp only at hz hv; subst hz hv
 kernel_rfl
theorem zHq:zyj [z0] [v0] wkB wkE=[(⟨0,1,0,-2,0⟩,⟨1,0,0,-2,0⟩)]:=by
 obtain⟨s,a,c⟩:=z0; obtain⟨v,b,d⟩:=v0
 simp only at hz hv; subst hz hv
 kernel_rfl
theorem zH7:smN [z0] [v0] wkB wkH true 1=[(0,0)]∧smN [z0] [v0] wkB wkH false 1=[]:=by
 obtain⟨s,a,c⟩:=z0; obtain⟨v,b,d⟩:=v0
 simp only at hz hv; subst hz hv
 exact⟨by kernel_rfl,by kernel_rfl⟩
theorem zEt:zyv [z0] [v0] wkC wkB wkH 0 false=⟨0,1,0⟩∧zyv [z0] [v0] wkC wkB wkE 0 false=⟨0,0,8⟩:=by
 obtain⟨l1,l2⟩:=zBC hz hv
 unfold zyv wayI
 rw [if_pos l1,if_pos l2,zGL hz hv,zHq hz hv]
 exact⟨by kernel_rfl,by kernel_rfl⟩
theorem zFj:atE [z0] [v0] wkC wkB wkE [1]=0∧rchA [z0] [v0] wkC wkB wkE 1=[1]:=by
 obtain⟨l1,l2⟩:=zBC hz hv
 have h:atE [z0] [v0] wkC wkB wkE [1]=0:=zFF l2 (by kernel_rfl)
 refine⟨h,?_⟩
 unfold rchA
 rw [if_pos h,zHq hz hv]
 kernel_rfl
theorem zFi:prtE [z0] [v0] wkC wkB wkH 0 1=0∧(clA [z0] [v0] wkC wkB wkH 0 1).length=1∧(wkA [z0] [v0] wkC wkB wkH 0 1).length=1:=by
 obtain⟨l1,l2⟩:=zBC hz hv
 have h0:atE [z0] [v0] wkC wkB wkH [0,1]=0:=zFF l1 (by kernel_rfl)
 have h:prtE [z0] [v0] wkC wkB wkH 0 1=0:=by unfold prtE; rw [if_pos h0,if_neg (by decide)]
 refine⟨h,?_,?_⟩
 ·unfold clA
  rw [if_pos h,zGL hz hv]
  kernel_rfl
 ·unfold wkA
  rw [if_pos h,zGL hz hv]
  kernel_rfl
theorem zFk:zBP [z0] [v0] wkC wkB wkH=0∧(smA [z0] [v0] wkC wkB wkH true).length=1∧(smA [z0] [v0] wkC wkB wkH false).length=0:=by
 obtain⟨l1,l2⟩:=zBC hz hv
 obtain⟨s1,s2⟩:=zH7 hz hv
 refine⟨if_pos l1,?_,?_⟩
 ·unfold smA; rw [if_pos l1]; show(smN [z0] [v0] wkB wkH true 1).length=1; rw [s1]; rfl
 ·unfold smA; rw [if_pos l1]; show(smN [z0] [v0] wkB wkH false 1).length=0; rw [s2]; rfl
end
section
variable {z0:ShC} (hz:z0.s=dSh)
include hz
theorem zjy:∀ z∈[z0],zaP z.s.heights.length:=fun z h=>by rw [List.mem_singleton.1 h,hz]; decide +kernel
end
theorem zn2 {v0:WlC} (hv:v0.s=dWl):∀ z∈[v0],zaP z.s.opens.length:=fun z h=>by rw [List.mem_singleton.1 h,hv]; decide +kernel
theorem zsv {v0:WlC} (hv:v0.s=dWl):∀ z∈[v0],∀ o∈z.s.opens,Knd o:=fun z h o ho=>by
 rw [List.mem_singleton.1 h,hv] at ho
 have:o=dOp:=List.mem_singleton.1 (show o∈[dOp] from ho)
 rw [this]; decide
theorem en15:En Tryz.prog 15:=eK Tryz.func15
theorem en16:En Tryz.prog 16:=eK Tryz.func16
theorem en23:En Tryz.prog 23:=eK Tryz.func23
theorem en24:En Tryz.prog 24:=eK Tryz.func24
theorem en44:En Tryz.prog 44:=eK Tryz.func44
theorem en45:En Tryz.prog 45:=eK Tryz.func45
theorem zC9 (x0a:Option Addr) (x0n x0c:Nat) (x1a:Option Addr) (x1n x1c:Nat) (w:World):(Instr.build 40 #[(0,.slice x0a x0n x0c),(1,.slice x1a x1n x1c)]).run Tryz.prog w=.ok (.agg #[.slice x0a x0n x0c,.slice x1a x1n x1c]) w:=by kernel_rfl
theorem zDa (x0:Int) (x1:ByteArray) (w:World):(Instr.build 64 #[(1,.int .i64 x0),(2,.string x1)]).run Tryz.prog w=.ok (.agg #[.int .i64 0,.int .i64 x0,.string x1,.int .i64 0,.int .i64 0,.bool false]) w:=by kernel_rfl
theorem zG3 (x0_0 x1_0:ByteArray) (w:World):(Instr.buildSlice 26 2 #[(0,.string x0_0),(1,.string x1_0)]).run Tryz.prog w=.ok (.slice (some ⟨w.heap.size,0,none⟩) 2 2) (w.alloc (.cells (([x0_0,x1_0]:List (ByteArray)).flatMap encS).toArray 9)):=by kernel_rfl
theorem zz3  (w:World) (hmx:Has w (IntV 2)) (hcp:Has w (zaW (some ⟨1,0,none⟩) 1 encS zeZ)) (hop:Has w (zaW (some ⟨0,0,none⟩) 1 encS opensW)) :
  Calls Tryz.prog 14 #[] w (Pure (.bool true) w):=by
 refine zan (vs:=[]) Tryz.func14 rfl rfl (bL rfl) (gS (gA rfl (gN [0] rfl (gS (gQ (zaJ en45 rfl (fun w hw=>zvl w)) (zaG rfl rfl (zbm en44 rfl (fun w hw=>zus daleT w (rH hmx hw) (rH hcp hw) (rH hop hw))) fun p23=>(gM rfl (gQ (zaB rfl rfl) (gQ (zaB rfl rfl) (gQ (zaB rfl rfl) (zaG rfl rfl (zaL tf37 (zs:=[_,_]) rfl) fun b1=>(zaA 0 tf37 rfl rfl (vs:=[_,_]) rfl rfl rfl rfl rfl (gA rfl (gA rfl (gN [0,1,3] rfl (zao 1 rfl ?_))))))))))))))))
 obtain⟨⟨ra,rc,S⟩,⟨rb,rd,V⟩⟩:=p23
 refine za2 (R':=PlR yP ((ra,rc,S),(rb,rd,V)) ⟨[dSh],[dWl]⟩) 0 rfl (fun B w hA=>by rw [zgT] at hA; exact hA) (zjk fun hS hV=>?_)
 obtain⟨z0,rfl,hz⟩:=zp7 hS
 obtain⟨v0,rfl,hv⟩:=zp7 hV
 have hl1:([z0]:List ShC).length=1:=rfl
 have hl2:([v0]:List WlC).length=1:=rfl
 obtain⟨hA1,hA2⟩:=zEt hz hv
 obtain⟨hR1,hR2⟩:=zFj hz hv
 obtain⟨hC1,hC2,hC3⟩:=zFi hz hv
 obtain⟨hS1,hS2,hS3⟩:=zFk hz hv
 have hRl:(rchA [z0] [v0] wkC wkB wkE 1).length=1:=by rw [hR2]; rfl
 refine za2 (R':=Box b1 [.slice ra 1 rc,.slice rb 1 rd] 37) 4 rfl (fun B w hA=>hA) (zae (T':=[(0,_),(1,_),(3,.int .i64 0)]) ⟨rfl,rfl,(by rw [zgT]; rfl),trivial⟩ (gS (zaG rfl rfl (zaD rfl (zG3 _ _) ztJ rfl) fun b27=>(gQ (zaI rfl (zDa _ _)) (zaG rfl rfl (zaD rfl (zsE _ _ _ _ _ _) zyx rfl) fun b29=>(gQ (zaI rfl (zC9 _ _ _ _ _ _)) (zaG rfl rfl (zaL tf40 (zs:=[_,_]) rfl) fun b4=>(zaA 0 tf40 rfl rfl (vs:=[_,_]) rfl rfl rfl rfl rfl (gN [0,1,3,4] rfl (gS (gQ (zaI rfl (zyE _ _ _ _ _)) (zaG rfl rfl (zaL tf41 (zs:=[_,_,_,_,_]) rfl) fun b5=>(zaA 0 tf41 rfl rfl (vs:=[_,_,_,_,_]) rfl rfl rfl rfl rfl (gN [0,1,3,4,5] rfl (gS (gQ (zaI rfl (zyE _ _ _ _ _)) (zaG rfl rfl (zaL tf41 (zs:=[_,_,_,_,_]) rfl) fun b6=>(zaA 0 tf41 rfl rfl (vs:=[_,_,_,_,_]) rfl rfl rfl rfl rfl (gN [0,1,3,4,5,6] rfl (gS (gQ (zat 9 tf37 rfl rfl (vs:=[_,_]) rfl rfl) (gQ (zat 2 tf40 rfl rfl (vs:=[_,_]) rfl rfl) (gQ (zat 1 tf41 rfl rfl (vs:=[_,_,_,_,_]) rfl rfl) ?_)))))))))))))))))))))))
 refine gQ (zaJ en24 rfl (fun w hw=>zAz _ _ [z0] _ _ [v0] _ _ wkC _ _ wkB wkH 0 false w (zam zbI (hw.has (p:=5) rfl)) (show zaP 1 by decide) (zcM (hw.has (p:=5) rfl)) (zam zbo (hw.has (p:=7) rfl)) (show zaP 1 by decide) (fun z hz2=>zam Go.Stn.encI_ok (zbV (f:=rowH 3) (hw.has (p:=6) rfl) hz2)) (zjy hz) (fun z hz2=>zam zyn (zbV (f:=rowO 122) (hw.has (p:=8) rfl) hz2)) (zn2 hv) (fun z hz2=>zcM (zbV (f:=rowO 122) (hw.has (p:=8) rfl) hz2)) (zsv hv) (zam ztJ (hw.has (p:=4) rfl)) (show zaP 2 by decide) (show 2≤2 by decide) (zam zyx (hw.has (p:=3) rfl)) (show zaP 1 by decide))) (gM rfl (gQ (zaB rfl rfl) (gQ (zaB rfl rfl) (gQ (zaB rfl rfl) (gA rfl (gA rfl (gA rfl (gN [0,1,3,4,5,6,7,8,9] rfl (gS (gQ (zat 9 tf37 rfl rfl (vs:=[_,_]) rfl rfl) (gQ (zat 2 tf40 rfl rfl (vs:=[_,_]) rfl rfl) (gQ (zat 0 tf41 rfl rfl (vs:=[_,_,_,_,_]) rfl rfl) ?_))))))))))))
 refine gQ (zaJ en24 rfl (fun w hw=>zAz _ _ [z0] _ _ [v0] _ _ wkC _ _ wkB wkE 0 false w (zam zbI (hw.has (p:=5) rfl)) (show zaP 1 by decide) (zcM (hw.has (p:=5) rfl)) (zam zbo (hw.has (p:=7) rfl)) (show zaP 1 by decide) (fun z hz2=>zam Go.Stn.encI_ok (zbV (f:=rowH 3) (hw.has (p:=6) rfl) hz2)) (zjy hz) (fun z hz2=>zam zyn (zbV (f:=rowO 122) (hw.has (p:=8) rfl) hz2)) (zn2 hv) (fun z hz2=>zcM (zbV (f:=rowO 122) (hw.has (p:=8) rfl) hz2)) (zsv hv) (zam ztJ (hw.has (p:=4) rfl)) (show zaP 2 by decide) (show 2≤2 by decide) (zam zyx (hw.has (p:=3) rfl)) (show zaP 1 by decide))) (gM rfl (gQ (zaB rfl rfl) (gQ (zaB rfl rfl) (gQ (zaB rfl rfl) (gA rfl (gA rfl (gA rfl (gN [0,1,3,4,5,6,7,8,9,12] rfl (gS (gQ (zat 9 tf37 rfl rfl (vs:=[_,_]) rfl rfl) (gQ (zat 2 tf40 rfl rfl (vs:=[_,_]) rfl rfl) (gQ (zat 0 tf41 rfl rfl (vs:=[_,_,_,_,_]) rfl rfl) ?_))))))))))))
 refine zaG rfl rfl (zbm en15 rfl (fun w hw=>zE5 _ _ [z0] _ _ [v0] _ _ wkC _ _ wkB wkE 1 w (zam zbI (hw.has (p:=5) rfl)) (show zaP 1 by decide) (zcM (hw.has (p:=5) rfl)) (zam zbo (hw.has (p:=7) rfl)) (show zaP 1 by decide) (fun z hz2=>zam Go.Stn.encI_ok (zbV (f:=rowH 3) (hw.has (p:=6) rfl) hz2)) (zjy hz) (fun z hz2=>zam zyn (zbV (f:=rowO 122) (hw.has (p:=8) rfl) hz2)) (zn2 hv) (fun z hz2=>zcM (zbV (f:=rowO 122) (hw.has (p:=8) rfl) hz2)) (zsv hv) (zam ztJ (hw.has (p:=4) rfl)) (show zaP 2 by decide) (show 2≤2 by decide) (zam zyx (hw.has (p:=3) rfl)) (show zaP 1 by decide))) fun p53=>(gM rfl (gQ (zaB rfl rfl) (gQ (zaB rfl rfl) (gA rfl (gA rfl (gN [0,1,3,4,5,7,8,9,12,13,14] rfl (gS (gQ (zat 10 tf37 rfl rfl (vs:=[_,_]) rfl rfl) (gQ (zat 3 tf40 rfl rfl (vs:=[_,_]) rfl rfl) (gQ (zat 2 tf41 rfl rfl (vs:=[_,_,_,_,_]) rfl rfl) ?_))))))))))
 refine zaG rfl rfl (zbm en23 rfl (fun w hw=>zEF _ _ [z0] _ _ [v0] _ _ wkC _ _ wkB wkH 0 1 w (zam zbI (hw.has (p:=6) rfl)) (show zaP 1 by decide) (zcM (hw.has (p:=6) rfl)) (zam zbo (hw.has (p:=8) rfl)) (show zaP 1 by decide) (fun z hz2=>zam Go.Stn.encI_ok (zbV (f:=rowH 3) (hw.has (p:=7) rfl) hz2)) (zjy hz) (fun z hz2=>zam zyn (zbV (f:=rowO 122) (hw.has (p:=9) rfl) hz2)) (zn2 hv) (fun z hz2=>zcM (zbV (f:=rowO 122) (hw.has (p:=9) rfl) hz2)) (zsv hv) (zam ztJ (hw.has (p:=5) rfl)) (show zaP 2 by decide) (show 2≤2 by decide) (zam zyx (hw.has (p:=4) rfl)) (show zaP 1 by decide))) fun p60=>(gM rfl (gQ (zaB rfl rfl) (gQ (zaB rfl rfl) (gQ (zaB rfl rfl) (gA rfl (gA rfl (gA rfl (gN [0,1,3,4,5,7,8,9,12,13,14,15,16,17] rfl (zz4 fun hWK=>?_)))))))))
 have hKl:p60.2.2.length=1:=by have h:=congrArg List.length hWK; rw [lM] at h; rw [h]; exact hC3
 refine gS (gQ (zat 11 tf37 rfl rfl (vs:=[_,_]) rfl rfl) (gQ (zat 4 tf40 rfl rfl (vs:=[_,_]) rfl rfl) (gQ (zat 3 tf41 rfl rfl (vs:=[_,_,_,_,_]) rfl rfl) (zaG rfl rfl (zbm en16 rfl (fun w hw=>zE7 _ _ [z0] _ _ [v0] _ _ wkC _ _ wkB wkH w (zam zbI (hw.has (p:=7) rfl)) (show zaP 1 by decide) (zcM (hw.has (p:=7) rfl)) (zam zbo (hw.has (p:=9) rfl)) (show zaP 1 by decide) (fun z hz2=>zam Go.Stn.encI_ok (zbV (f:=rowH 3) (hw.has (p:=8) rfl) hz2)) (zjy hz) (fun z hz2=>zam zyn (zbV (f:=rowO 122) (hw.has (p:=10) rfl) hz2)) (zn2 hv) (fun z hz2=>zcM (zbV (f:=rowO 122) (hw.has (p:=10) rfl) hz2)) (zsv hv) (zam ztJ (hw.has (p:=6) rfl)) (show zaP 2 by decide) (show 2≤2 by decide) (zam zyx (hw.has (p:=5) rfl)) (show zaP 1 by decide))) fun p68=>(gM rfl (gQ (zaB rfl rfl) (gQ (zaB rfl rfl) (gQ (zaB rfl rfl) (gA rfl (gA rfl (gA rfl (gN [0,3,7,8,9,12,13,14,15,16,17,18,19,20] rfl (gS (gM rfl (gQ (zbL rfl rfl) (gM rfl (gT rfl rfl rfl (gM rfl (gT rfl rfl rfl (gQ (zbQ (zbL rfl rfl) (by rw [hA1]; rfl)) (gQ (za5 rfl rfl rfl) (gM rfl (gT rfl rfl rfl (gM rfl (gT rfl rfl rfl (gQ (zbQ (zbL rfl rfl) (by rw [hA1]; rfl)) ?_))))))))))))))))))))))))))
 refine gQ (za5 rfl rfl rfl) (gM rfl (gT rfl rfl rfl (gM rfl (gT rfl rfl rfl (gQ (zbQ (zbL rfl rfl) (by rw [hA1]; rfl)) (gQ (za5 rfl rfl rfl) (gM rfl (gT rfl rfl rfl (gM rfl (gT rfl rfl rfl (gQ (zbQ (zbL rfl rfl) (by rw [hA2]; rfl)) (gQ (za5 rfl rfl rfl) (gM rfl (gT rfl rfl rfl (gM rfl (gT rfl rfl rfl (gQ (zbQ (zbL rfl rfl) (by exact decide_eq_true hR1)) (gQ (za5 rfl rfl rfl) (gM rfl (gT rfl rfl rfl (gM rfl (gT rfl rfl rfl (gQ (zaV (Tryz.underlying45) rfl) (gT rfl rfl rfl (gQ (zbQ (zbL rfl rfl) (by rw [hRl]; rfl)) (gQ (za5 rfl rfl rfl) (gM rfl (gT rfl rfl rfl (gM rfl (gT rfl rfl rfl (gQ (zaE se45 rfl rfl (fun _ hw=>(zam Go.Stn.encI_ok (hw.has (p:=2) rfl)))) (gT rfl rfl rfl (gQ (zcE tf3 rfl (fun _ hw=>(zam Go.Stn.encI_ok (hw.has (p:=2) rfl))) (by omega) (by omega) rfl) (gT rfl rfl rfl (gQ (zbQ (zbL rfl rfl) (by rw [show(0:Int).toNat=0 from rfl,hR2]; rfl)) (gQ (za5 rfl rfl rfl) (gM rfl (gT rfl rfl rfl (gM rfl (gT rfl rfl rfl ?_))))))))))))))))))))))))))))))))))))))))
 refine gQ (zbQ (zbL rfl rfl) (by exact decide_eq_true hC1)) (gQ (za5 rfl rfl rfl) (gM rfl (gT rfl rfl rfl (gM rfl (gT rfl rfl rfl (gQ (zaV (Tryz.underlying45) rfl) (gT rfl rfl rfl (gQ (zbQ (zbL rfl rfl) (by rw [hC2]; rfl)) (gQ (za5 rfl rfl rfl) (gM rfl (gT rfl rfl rfl (gM rfl (gT rfl rfl rfl (gQ (zaV (Tryz.underlying60) rfl) (gT rfl rfl rfl (gQ (zbQ (zbL rfl rfl) (by rw [hKl]; rfl)) (gQ (za5 rfl rfl rfl) (gM rfl (gT rfl rfl rfl (gM rfl (gT rfl rfl rfl (gQ (zbQ (zbL rfl rfl) (by exact decide_eq_true hS1)) (gQ (za5 rfl rfl rfl) (gM rfl (gT rfl rfl rfl (gM rfl (gT rfl rfl rfl (gQ (zaV (Tryz.underlying49) rfl) (gT rfl rfl rfl (gQ (zbQ (zbL rfl rfl) (by rw [hS2]; rfl)) (gQ (za5 rfl rfl rfl) (gM rfl (gT rfl rfl rfl (gM rfl (gT rfl rfl rfl (gQ (zaV (Tryz.underlying49) rfl) (gT rfl rfl rfl (gQ (zbQ (zbL rfl rfl) (by rw [hS3]; rfl)) (gQ (za5 rfl rfl rfl) (gA rfl ?_))))))))))))))))))))))))))))))))))))))))
 refine gN [0] rfl (zaw (zay (zaC rfl (zau rfl)) ?_))
 rfl
end Go.Proofs.YteepmmghanbllaaGreatDoor
namespace Go.Fld
open Go Go.K Go.Stn Go.Pln
structure Trk where
 eff:Int
 l:List Crg
 there:Bool
def zIm (W:List (Crg×Crg)) (may:Crg→Bool) (c:Crg):Prop:=c∈allC W∧-1≤c.way∧may c=true
def zIB (W:List (Crg×Crg)) (n:Nat):Prop:=∀ c∈allC W,(0≤c.frm∧c.frm < n)∧0≤c.to∧c.to < n
section
variable {S:List ShC} {V:List WlC} {cs:List ByteArray} {bs:List Bdr} {x:Anm}
theorem zIr (h:zym S V cs bs x=true):zIB (zyj S V bs x) cs.length:=by
 have hp:=zBa h
 obtain⟨_,_,_,_,_,hb⟩:=zzD h
 intro c hc
 obtain⟨i,hi,e⟩:=zFE hc
 have f1:=hp.fst i hi; have f2:=hp.snd i hi
 have hf:=zzq (hb i (by rw [zz5] at hi; exact hi))
 rcases e with e | e <;> rw [e] <;> omega
variable {frm:Int} {l:List (Int×Int)}
end
section
variable {S S2:List ShC} {V V2:List WlC} {cs:List ByteArray} {bs:List Bdr} {x:Anm} (h:S2.map (·.s)=S.map (·.s)) (h2:V2.map (·.s)=V.map (·.s))
include h h2
theorem zAq:zym S2 V2 cs bs x=zym S V cs bs x:=by
 have hb:∀ n b,zzp S2 V2 n b=zzp S V n b:=fun n b=>by unfold zzp; rw [zcK h h2]
 unfold zym zy1
 rw [zmw h h2]
 simp only [hb]
theorem zCu:zyj S2 V2 bs x=zyj S V bs x:=by
 unfold zyj wayB
 simp only [zgc h h2,zeN h h2]
theorem zIk (l:List Int):atE S2 V2 cs bs x l=atE S V cs bs x l:=by unfold atE; rw [zAq h h2]
theorem zIZ (frm:Int):rchA S2 V2 cs bs x frm=rchA S V cs bs x frm:=by unfold rchA; rw [zIk h h2,zCu h h2]
end
end Go.Fld
namespace Go.Proofs.YteepmmghanbllaaGreatDoor
open Go.K Go.Stn Go.Pln Go.Fld Go.RowKit
theorem tf33:TF Tryz.prog 33 true 9 (.agg #[.slice none 0 0,.slice none 0 0,.slice none 0 0,.slice none 0 0,.int .i64 0,.int .i64 0,.int .i64 0,.int .i64 0,.int .i64 0]):=tK
theorem en13:En Tryz.prog 13:=eK Tryz.func13
theorem en14:En Tryz.prog 14:=eK Tryz.func14
theorem en17:En Tryz.prog 17:=eK Tryz.func17
end Go.Proofs.YteepmmghanbllaaGreatDoor
namespace Go.Fld
open Go Go.K Go.Stn Go.Pln
def hasI (l:List Int) (n:Int):Bool:=l.any fun z=>decide (n=z)
theorem zIR {l:List Int} {n:Int}:hasI l n=true↔n∈l:=by
 unfold hasI
 rw [List.any_eq_true]
 constructor
 ·rintro ⟨z,h1,h2⟩; rw [oT h2]; exact h1
 ·intro h; exact⟨n,h,decide_eq_true rfl⟩
end Go.Fld
namespace Go.Proofs.YteepmmghanbllaaGreatDoor
open Go.K Go.Stn Go.Pln Go.Fld Go.RowKit
theorem en89:En Tryz.prog 89:=eK Tryz.func89
theorem zK3 (a:Option Addr) (cap:Nat) (l:List Int) (n:Int) (w:World) (hl:Has w (Ints a l)) (hs:zaP l.length) :
  Calls Tryz.prog 89 #[.slice a l.length cap,.int .i64 n] w (Pure (.int .i64 (zbJ (fun z:Int=>decide (n=z)) l)) w):=by
 refine zan (vs:=[_,_]) Tryz.func89 rfl rfl (bL rfl) (gS (gA rfl (gN [0,1,4] rfl (zac (gS (gM rfl (gQ (zaV (Tryz.underlying45) rfl) (gM rfl (gN [0,1,4,7,8] rfl (zas (zbf (X:=Int) (fun(i:Int)=>[(0,.slice a l.length cap),(1,.int .i64 n),(4,.int .i64 0),(7,.int .i64 (l.length:Int)),(8,.int .i64 i)]) (fun(i:Int)=>[]) (fun(i:Int)=>(0≤i∧i≤l.length∧∀ j:Nat,(j:Int) < i→decide (n=l.getD j default)=false)) (fun(i:Int)=>(l.length - i).toNat) 0 (sB rfl) rfl ?_ ?_)))))))))))
 ·exact⟨by omega,by omega,fun j hj=>by omega⟩
 ·rintro i hI
  obtain⟨g0,g1,g2⟩:=hI
  refine gS (gQ (zbw rfl rfl) (gN [0,1,4,7,8,9] rfl (zac (zap rfl (fun hc9=>?_) (fun hc9=>?_)))))
  ·simp only [dT] at hc9
   refine zaq (zac (zas (gS (gM rfl (gA rfl (gN [0,1,4,5,7,8] rfl (gS (gM rfl (gM rfl (gM rfl (gQ (zaE se45 rfl rfl (fun _=>rH hl)) (gQ (zcE tf3 rfl (fun _=>rH hl) (by omega) (by omega) rfl) (gQ (zbL rfl rfl) (gN [0,1,4,5,7,8,16] rfl (zap rfl (fun hc16=>?_) (fun hc16=>?_))))))))))))))))
   ·
    refine gS (gM rfl (gA rfl (gN [0,1,4,7,8] rfl (zaw (zay (zaC rfl (zau rfl)) ?_)))))
    exact congrArg (fun n=>Value.int .i64 n) (zcs (p:=(fun z:Int=>decide (n=z))) g0 (by omega) g2 hc16).symm
   ·
    refine zaq (zaa (gQ (zaY rfl rfl) (gM rfl (gN [0,1,4,7,8] rfl ?_))))
    exact za1 _ (sB rfl) rfl ⟨by omega,by omega,fun j hj=>if h:(j:Int) < i then g2 j h else(by rw [show j=i.toNat from by omega]; exact hc16)⟩ (by omega)
  ·simp only [dF] at hc9
   refine za8 rfl (gS (gA rfl (gN [4] rfl (zaw (zay (zaC rfl (zau rfl)) ?_)))))
   exact congrArg (fun n=>Value.int .i64 n) (zck (p:=(fun z:Int=>decide (n=z))) (fun j hj=>g2 j (by omega))).symm
theorem zKI (a:Option Addr) (cap:Nat) (l:List Int) (n:Int) (w:World) (hl:Has w (Ints a l)) (hs:zaP l.length) :
  Calls Tryz.prog 59 #[.slice a l.length cap,.int .i64 n] w (Pure (.bool (hasI l n)) w):=by
 refine zan (vs:=[_,_]) Tryz.func59 rfl rfl (bL rfl) (gS (gA rfl (gN [0,1,4] rfl (gS (gM rfl (gM rfl (gQ (zaJ en89 rfl (fun w hw=>zK3 _ _ l n w (rH hl hw) (by assumption))) (gQ (zfx rfl rfl) (gA rfl (gN [4] rfl (zaw (zay (zaC rfl (zau rfl)) ?_))))))))))))
 rw [ze9]; rfl
end Go.Proofs.YteepmmghanbllaaGreatDoor
namespace Go.Fld
open Go Go.K Go.Stn Go.Pln
abbrev allM:Crg→Bool:=fun _=>true
section
variable {W:List (Crg×Crg)} {n k:Nat} {frm next:Int} {T:List Trk} {D:List Bool} {bs:List Bdr}
theorem zK0 {c:Crg} {cell:Int} (h:c∈outL W cell):zIm W allM c∧c.frm=cell:=by
 obtain⟨h1,h2,h3⟩:=zJd h
 exact⟨⟨h1,h3,rfl⟩,h2⟩
end
def penT (W:List (Crg×Crg)) (pen:List Int) (i:Nat):Bool:=(decide (i=0)||decide (pen.getD (i - 1) default < pen.getD i default))&&(outL W (pen.getD i default)).all fun c=>hasI pen c.to
def penB (W:List (Crg×Crg)) (cell:Int) (pen:List Int):Bool:=hasI pen cell&&allI pen.length (penT W pen)
def penA (S:List ShC) (V:List WlC) (cs:List ByteArray) (bs:List Bdr) (x:Anm) (cell:Int) (pen:List Int):Bool:=decide (atE S V cs bs x (cell :: pen)=0)&&penB (zyj S V bs x) cell pen
section
variable {W:List (Crg×Crg)} {cell:Int} {pen:List Int} {i:Nat}
theorem zK9 (h:hasI pen cell=false):penB W cell pen=false:=by unfold penB; rw [h]; rfl
theorem zKX (hi:i < pen.length) (h:penT W pen i=false):penB W cell pen=false:=by
 unfold penB; rw [zc9 (p:=penT W pen) (by omega) h,Bool.and_false]
theorem zKY (h:hasI pen cell=true) (h2:∀ j:Nat,j < pen.length→penT W pen j=true):penB W cell pen=true:=by
 unfold penB; rw [h,zdf.2 h2]; rfl
theorem zK5 (h1:1≤i) (h:pen.getD i default≤pen.getD (i - 1) default):penT W pen i=false:=by
 unfold penT; rw [decide_eq_false (by omega),decide_eq_false (by omega)]; rfl
theorem zK4 {n:Nat} (hn:n < (outL W (pen.getD i default)).length) (h:hasI pen ((outL W (pen.getD i default)).getD n default).to=false):penT W pen i=false:=by
 unfold penT
 rw [Bool.and_eq_false_iff]
 refine .inr ?_
 cases e:(outL W (pen.getD i default)).all (fun c=>hasI pen c.to) with
 | false=>rfl
 | true=>rw [List.all_eq_true.1 e _ (za0 hn)] at h; cases h
theorem zKS (h:i=0∨pen.getD (i - 1) default < pen.getD i default) (h2:∀ j:Nat,j < (outL W (pen.getD i default)).length→hasI pen ((outL W (pen.getD i default)).getD j default).to=true):penT W pen i=true:=by
 unfold penT
 rw [aT]
 refine⟨by simpa using h,List.all_eq_true.2 fun c hc=>?_⟩
 obtain⟨j,hj,e⟩:=List.getElem_of_mem hc
 have:=h2 j hj
 rwa [gE,eG hj,Option.getD_some,e] at this
theorem zKW:penB W cell pen=true↔cell∈pen∧(∀ i:Nat,1≤i→i < pen.length→pen.getD (i - 1) default < pen.getD i default)∧∀ c,zIm W allM c→c.frm∈pen→c.to∈pen:=by
 constructor
 ·intro h
  unfold penB at h
  rw [aT,zIR,zdf] at h
  obtain⟨h1,h2⟩:=h
  refine⟨h1,fun i hi hl=>?_,fun c hc hf=>?_⟩
  ·have:=h2 i hl
   unfold penT at this
   rw [aT,Bool.or_eq_true,dT,dT] at this
   exact this.1.resolve_left (by omega)
  ·obtain⟨j,hj,e⟩:=List.getElem_of_mem hf
   have:=h2 j hj
   unfold penT at this
   rw [aT,gE (l:=pen) (i:=j),eG hj,Option.getD_some,e,List.all_eq_true] at this
   exact zIR.1 (this.2 c (zJK hc.1 hc.2.1))
 ·rintro ⟨h1,h2,h3⟩
  refine zKY (zIR.2 h1) fun j hj=>zKS ?_ fun k hk=>zIR.2 ?_
  ·by_cases e:j=0
   ·exact .inl e
   ·exact .inr (h2 j (by omega) hj)
  ·obtain⟨u1,u2⟩:=zK0 (za0 hk)
   exact h3 _ u1 (by rw [u2]; exact za0 hj)
theorem zK8 {may:Crg→Bool} (h:penB W cell pen=true) {y:Int} (hr:Rch W may cell y):y∈pen:=by
 obtain⟨h1,_,h3⟩:=zKW.1 h
 induction hr with
 | here=>exact h1
 | far _ hc _ ih=>exact h3 _ (zK0 hc).1 ih
theorem zKB {l:List Int} (h:l.Pairwise (· < ·)) {i j:Nat} (hij:i < j) (hj:j < l.length):l.getD i default < l.getD j default:=by
 rw [gE,gE,eG hj,eG (by omega)]
 exact List.pairwise_iff_getElem.1 h i j (by omega) hj hij
theorem zKZ {n:Nat} (hto:ToOk W) (hw:zIB W n) (hn:n≤40) (h0:0≤cell) (h1:cell < n):penB W cell (zAs (zze W allM cell) 40)=true∧∀ z∈zAs (zze W allM cell) 40,0≤z∧z < n:=by
 have key:∀ z:Int,z∈zAs (zze W allM cell) 40↔0≤z∧z < 40∧Rch W allM cell z:=fun z=>by
  rw [zKs]
  constructor
  ·rintro ⟨a,b,c⟩
   have h:=(zIF hto h0 (show cell < 40 by omega)).1 c
   rw [tN a] at h
   exact⟨a,b,h⟩
  ·rintro ⟨a,b,c⟩
   refine⟨a,b,(zIF hto h0 (show cell < 40 by omega)).2 ?_⟩
   rwa [tN a]
 have hin:∀ z,Rch W allM cell z→0≤z∧z < n:=fun z h=>by
  cases h with
  | here=>exact⟨h0,h1⟩
  | far _ hc _=>exact(hw _ (zJd hc).1).2
 refine⟨zKW.2 ⟨(key _).2 ⟨h0,by omega,.here⟩,fun i hi hl=>zKB (zKE (p:=fun i=>(zze W allM cell).getD i false) (n:=40)) (by omega) hl,fun c hc hf=>?_⟩,fun z hz=>hin z ((key z).1 hz).2.2⟩
 have hr:Rch W allM cell c.to:=.far ((key _).1 hf).2.2 (zJK hc.1 hc.2.1) rfl
 have:=hin _ hr
 exact(key _).2 ⟨this.1,by omega,hr⟩
end
section
variable {S:List ShC} {V:List WlC} {cs:List ByteArray} {bs:List Bdr} {x:Anm} {cell:Int} {pen:List Int}
theorem zK7 (h:¬ atE S V cs bs x (cell :: pen)=0):penA S V cs bs x cell pen=false:=by unfold penA; rw [decide_eq_false h]; rfl
theorem zKV (h:atE S V cs bs x (cell :: pen)=0):penA S V cs bs x cell pen=penB (zyj S V bs x) cell pen:=by unfold penA; rw [decide_eq_true h]; rfl
end
end Go.Fld
namespace Go.K
open Go Go.RowKit
section
variable {α:Type} {enc:α→List Value} {k:Nat} {c:Cx} {ds:List Deferred} {T:List (Nat×Value)} {H:List Res} {d:Option Nat} {x y:Operand} {ty:TypeId} {ps:String} {af:Array Edge} {g:Option (Nat×Bool)}
def AppR (e:TypeId) (k:Nat) (enc:α→List Value) (a:Option Addr) (cap:Nat) (l m:List α) (z:Option Addr×Nat):Res:=
 if m.length=0 then zDo (z=(a,cap)) Emp else Row z.1 k z.2 e enc (l++m)
theorem zKR {e:TypeId} {a:Option Addr} {cap:Nat} {l m:List α} {z:Option Addr×Nat} {w:World} (he:Enc k enc) (h1:Has w (Row a k cap e enc l)) (h2:Has w (AppR e k enc a cap l m z)):Has w (zaW z.1 k enc (l++m)):=by
 unfold AppR at h2
 split at h2
 ·rename_i h0
  obtain⟨_,_,hz,_⟩:=h2
  rw [hz,List.length_eq_zero_iff.1 h0,List.append_nil]
  exact zam he h1
 ·exact zam he h2
theorem zKN {t e:TypeId} {by_:Nat} {zs:List Value} {a a2:Option Addr} {cap c2:Nat} {l m:List α} (hf:AF c.P t e k by_ zs) (he:Enc k enc)
  (hx:evo T x=some (.slice a l.length cap)) (hy:evo T y=some (.slice a2 m.length c2)) (hl:∀ w,Hp c.U c.w0 H w→Has w (Row a k cap e enc l)) (hm:∀ w,Hp c.U c.w0 H w→Has w (zaW a2 k enc m))
  (hb:(l.length+m.length)*by_≤140737488355328) (hlm:l.length+m.length≤maxLen) (hg:cap=l.length) :
  YX c ds H T ⟨d,.call ⟨.builtin .append,#[x,y],#[t,t]⟩,ty,ps,af,g⟩ (fun z:Option Addr×Nat=>.slice z.1 (l++m).length z.2) (AppR e k enc a cap l m):=by
 by_cases h0:m.length=0
 ·have e0:=List.eq_nil_of_length_eq_zero h0
  have h:=(zKO (c:=c) (ds:=ds) (H:=H) (T:=T) (d:=d) (ty:=ty) (ps:=ps) (af:=af) (g:=g) hf hx hy h0 (Nat.le_of_eq hg.symm)).run
  refine⟨fun A w hs hw=>?_⟩
  refine(h A w hs hw).mono fun v w' hv=>(⟨(a,cap),by rw [hv.1,e0,List.append_nil],hv.2,fun _=>False,fun _ h=>h.elim,?_⟩)
  unfold AppR
  rw [if_pos h0]
  exact⟨rfl,trivial⟩
 ·have h:=zlO (c:=c) (ds:=ds) (H:=H) (T:=T) (d:=d) (ty:=ty) (ps:=ps) (af:=af) (g:=g) hf he hx hy hl hm hb hlm (by omega)
  have e1:(fun z:Option Addr×Nat=>Row z.1 k z.2 e enc (l++m))=AppR e k enc a cap l m:=funext fun z=>by unfold AppR; rw [if_neg h0]
  rw [←e1]; exact h
end
def Dfrs:List Nat→Res
 | []=>Emp
 | D :: M=>SepR [Dfr D,Dfrs M]
abbrev mrk (M:List Nat) (ds:List Deferred):List Deferred:=M.map mark++ds
def NxtM (c:Cx) (ds:List Deferred) {X:Type} (Tf:X→List (Nat×Value)) (Hf:X→List Res) (Mf:X→List Nat) (I:X→Prop) (μ:X→Nat) (m:Nat):Act→World→Prop:=
 fun a w=>∃ x',Sat c.n (Tf x') (mrk (Mf x') ds) a∧Hp c.U c.w0 (Hf x') w∧I x'∧μ x' < m
section
variable {c:Cx} {ds ds':List Deferred} {p:Post} {T:List (Nat×Value)} {H:List Res}
theorem zKT {K:Act→World→Prop} (h:GK c (mrk [] ds) K T (Dfrs [] :: H)):GK c ds K T H:=zyS h
theorem zK2 {X:Type} {Tf:X→List (Nat×Value)} {Hf:X→List Res} {Mf:X→List Nat} {I:X→Prop} {μ:X→Nat} {m:Nat} (x':X) (hd:ds' = mrk (Mf x') ds) (hT:sub (Tf x') T) (hH:Hf x' = H) (hI:I x') (hm:μ x' < m) :
  GK c ds' (NxtM c ds Tf Hf Mf I μ m) T H:=fun _ _ ha hw=>⟨x',hd ▸ ha.mono hT,hH ▸ hw,hI,hm⟩
theorem zK1 {body:Code} {X:Type} (Tf:X→List (Nat×Value)) (Hf:X→List Res) (Mf:X→List Nat) (I:X→Prop) (μ:X→Nat) (x0:X) (hM:Mf x0=[]) (hT:sub (Tf x0) T) (hH:Hf x0=H) (hI:I x0)
  (round:∀ x,I x→GK c (mrk (Mf x) ds) (KC c body { nrm:=NxtM c ds Tf Hf Mf I μ (μ x),ret:=p.ret,ex:=p.ex,pn:=p.pn }) (Tf x) (Hf x)):GK c (mrk [] ds) (KC c (.loop body) p) T H:=by
 subst hH
 intro a w ha hw
 have key:∀ (m:Nat) (x:X),μ x=m→I x→∀ a w,Sat c.n (Tf x) (mrk (Mf x) ds) a→Hp c.U c.w0 (Hf x) w →
   ∀ (b:Frame) (k:List Item) (cs:List Frame),b.roundOf=(FW c.r).round→(FW c.r).fn b.fn→(FW c.r).room (cs.length+1+0) →
   ∃ e a' w',p.Q e a' w'∧ArrivesIn (Machine.fenced c.P (FW c.r)) c.P (lone (b.atR a (.code body :: .inLoop body :: k)) cs w) b k cs e a' w':=by
  intro m
  induction m using Nat.strongRecOn with
  | _ m ih=>
   intro x hm hI a w ha hw b k cs hro hb hr
   obtain⟨e,a₁,w₁,hq,harr⟩:=round x hI a w ha hw b (.inLoop body :: k) cs hro hb hr
   cases e with
   | normal=>
    obtain⟨x',ha',hw',hI',hlt⟩:=hq
    obtain⟨e₂,a₂,w₂,hq₂,harr₂⟩:=ih (μ x') (hm ▸ hlt) x' rfl hI' a₁ w₁ ha' hw' b k cs hro hb hr
    exact⟨e₂,a₂,w₂,hq₂,.of_steps (StepsIn.trans harr (.one (fenced_calm hb hr rfl) stepR_inLoop)) harr₂⟩
   | exit id=>exact⟨.exit id,a₁,w₁,hq,.pass (x:=.inLoop body) rfl (fun _ _=>.inl (by simp)) harr⟩
   | ret=>exact⟨.ret,a₁,w₁,hq,.pass (x:=.inLoop body) rfl (fun _ _=>.inl (by simp)) harr⟩
   | goto l=>exact hq.elim
   | panic ch=>exact⟨.panic ch,a₁,w₁,hq,.pass (x:=.inLoop body) rfl (fun _ _=>.inl (by simp)) harr⟩
   | outgrown=>exact hq.elim
 intro b k cs hro hb hr
 obtain⟨e,a',w',hq,harr⟩:=key _ x0 rfl hI a w (by rw [hM]; exact ha.mono hT) hw b k cs hro hb hr
 exact⟨e,a',w',hq,.of_steps (.one (fenced_calm hb hr rfl) stepR_loop) harr⟩
theorem zKK {fn:Func} {R:Ending→World→Prop}:∀ {M:List Nat} {H:List Res},GK c ds (RetP c.P fn R) T H→GK c (mrk M ds) (RetP c.P fn R) T (Dfrs M :: H)
 | [],_,h=>ztW h
 | _ :: _,_,h=>zbP (zil 0 rfl (zKK h))
theorem zKJ {fn:Func} {R:Ending→World→Prop} {M:List Nat} (i:Nat) (hi:H[i]?=some (Dfrs M)) (h:GK c ds (RetP c.P fn R) T (H.eraseIdx i)):GK c (mrk M ds) (RetP c.P fn R) T H:=zao i hi (zKK h)
end
end Go.K
namespace Go.Proofs.YteepmmghanbllaaGreatDoor
open Go.K Go.Stn Go.Pln Go.Fld Go.RowKit
theorem en59:En Tryz.prog 59:=eK Tryz.func59
theorem zKQ (a:Option Addr) (cap:Nat) (S:List ShC) (b:Option Addr) (bcap:Nat) (V:List WlC) (ca:Option Addr) (ccap:Nat) (cs:List ByteArray) (ba:Option Addr) (bcp:Nat) (bs:List Bdr) (x:Anm) (cell:Int) (pa:Option Addr) (pcap:Nat) (pen:List Int) (w:World) (hl:Has w (zaW a 20 zbH S)) (hs:zaP S.length) (hcS:S.length≤cap) (hlw:Has w (zaW b 4 zbS V)) (hsw:zaP V.length) (hsh:∀ z∈S,Has w (Ints z.a z.s.heights)) (hss:∀ z∈S,zaP z.s.heights.length) (hwo:∀ z∈V,Has w (zaW z.a 5 zba z.s.opens)) (hsv:∀ z∈V,zaP z.s.opens.length) (hcp:∀ z∈V,z.s.opens.length≤z.cap) (hkn:∀ z∈V,∀ o∈z.s.opens,Knd o) (hc:Has w (zaW ca 1 encS cs)) (hcs:zaP cs.length) (hcap:cs.length≤ccap) (hbd:Has w (zaW ba 6 zyr bs)) (hbs:zaP bs.length) (hpn:Has w (Ints pa pen)) (hps:pen.length≤45) (hat:atE S V cs bs x (cell :: pen)=0) :
  Calls Tryz.prog 27 #[.agg #[.slice a S.length cap,.slice b V.length bcap],.agg #[.slice ca cs.length ccap,.slice ba bs.length bcp],.agg #[.int .i64 x.wide,.int .i64 x.high,.int .i64 x.step,.int .i64 x.leap,.int .i64 x.reach],.int .i64 cell,.slice pa pen.length pcap] w (Pure (.bool (penA S V cs bs x cell pen)) w):=by
 obtain⟨hok,hin,hcs40,hbs80⟩:=zDr hat
 have hca:=zCw hin
 obtain⟨c0,c1⟩:=hca cell (by simp)
 have hlw_:(zyj S V bs x).length=bs.length:=zz5
 have hWs:zaP (zyj S V bs x).length:=by unfold zaP; omega
 have hA:=zKV (pen:=pen) hat
 refine zan (vs:=[_,_,_,_,_]) Tryz.func27 rfl rfl (bL rfl) (gS (zaG rfl rfl (za3 (vs:=[_,_]) rfl rfl) fun b5=>(zaG rfl rfl (za3 (vs:=[_,_]) rfl rfl) fun b6=>(zaG rfl rfl (za3 (vs:=[_,_,_,_,_]) rfl rfl) fun b7=>(zaG rfl rfl (za3 (vs:=[_]) rfl rfl) fun b9=>(zaG rfl rfl (zaL tf4 (zs:=[_]) rfl) fun b10=>(gN [3,5,6,7,9,10] rfl (zac (zCs [] (ch [(4,Nat),(6,(Option Addr×Nat)),(7,(Nat×(Option Addr×Nat)×(Option Addr×Nat)×List (Nat×List (Bool×Bool))))]) 1000 13 [0,0,0,0,8,0,56,127,255,511,511,1023,4095] [] rfl (fun _=>mixed) (by kernel_rfl) (zjK _ ⟨inferInstance,inferInstance,inferInstance,trivial⟩) (pY (fun ρ=>zat (b:=b5) (cs:=[.slice a S.length cap,.slice b V.length bcap]) (e:=37) 4 tf37 rfl (by kernel_rfl) (vs:=[_,_]) rfl rfl) (pY (fun ρ=>zat (b:=b6) (cs:=[.slice ca cs.length ccap,.slice ba bs.length bcp]) (e:=40) 3 tf40 rfl (by kernel_rfl) (vs:=[_,_]) rfl rfl) (pY (fun ρ=>zat (b:=b7) (cs:=[.int .i64 x.wide,.int .i64 x.high,.int .i64 x.step,.int .i64 x.leap,.int .i64 x.reach]) (e:=41) 2 tf41 rfl (by kernel_rfl) (vs:=[_,_,_,_,_]) rfl rfl) (pY (fun ρ=>zaf rfl) (zFy (fun ρ=>zaD rfl (zA3 _) Go.Stn.encI_ok rfl) (fun ρ ρ' h=>⟨by rfl,by rfl⟩) ?_))))))))))))))
 refine pY (fun ρ=>zah (b:=b9) (cs:=[.slice pa pen.length pcap]) (e:=45) 1 tf45 rfl (by kernel_rfl) rfl) (zFy (fun ρ=>zKN (l:=([cell])) (m:=pen) af45 Go.Stn.encI_ok rfl rfl (fun _ hw=>hw.has (p:=0) (R:=Row (some ⟨(ρ 4),0,none⟩) 1 1 3 Go.Stn.encI [cell]) (by simp only [zeS,tIs,okSt,rcf,zbe]; rfl)) (fun _=>rH hpn) (by show(1+pen.length)*_≤_; omega) (by show 1+pen.length≤maxLen; unfold maxLen; omega) rfl) (fun ρ ρ' h=>⟨by(first | rfl | (simp only [h 4 rfl]; done) | (simp only [h 4 rfl]; rfl)),by(first | rfl | (simp only [h 4 rfl]; done) | (simp only [h 4 rfl]; rfl))⟩) (zFy (fun ρ=>zbm en46 rfl (fun w hw=>zFH _ _ S _ _ V _ _ cs _ _ bs x _ _ (cell :: pen) w (rH hl hw) hs hcS (rH hlw hw) hsw (fun z hz=>(rH (hsh z hz) hw)) hss (fun z hz=>(rH (hwo z hz) hw)) hsv hcp hkn (rH hc hw) hcs hcap (rH hbd hw) hbs (zKR Go.Stn.encI_ok (hw.has (p:=1) (R:=Row (some ⟨(ρ 4),0,none⟩) 1 1 3 Go.Stn.encI [cell]) (by simp only [zeS,tIs,okSt,rcf,zbe]; rfl)) (hw.has (p:=0) (R:=AppR 3 1 Go.Stn.encI (some ⟨(ρ 4),0,none⟩) 1 ([cell]) pen (ρ 6)) (by simp only [zeS,tIs,okSt,rcf,zbe]; rfl))) (by show zaP (pen.length+1); unfold zaP; omega) hok hin)) (fun ρ ρ' h=>⟨by rfl,by rfl⟩) (zAr (fun ρ=>zaf rfl) (fun ρ ρ' h=>by(first | rfl | (simp only [h 7 rfl]; done) | (simp only [h 7 rfl]; rfl))) ?_)))
 refine zAr (fun ρ=>zaB rfl rfl) (fun ρ ρ' h=>by(first | rfl | (simp only [h 7 rfl]; done) | (simp only [h 7 rfl]; rfl))) (pY (fun ρ=>zaB rfl rfl) (zAr (fun ρ=>zad rfl) (fun ρ ρ' h=>by(first | rfl | (simp only [h 7 rfl]; done) | (simp only [h 7 rfl]; rfl))) (pY (fun ρ=>zad rfl) (fun ρ=>zag (zf4 (X:=Nat×(Option Addr×Nat)×(Nat×(Option Addr×Nat)×(Option Addr×Nat)×List (Nat×List (Bool×Bool)))) (ρ 4,ρ 6,ρ 7) (fun⟨b21,z23,p24⟩=>[(3,.int .i64 cell),(9,.pointer (some ⟨b9,0,none⟩)),(10,.pointer (some ⟨b10,0,none⟩)),(11,.pointer (some ⟨p24.1,0,none⟩)),(12,.int .i64 0)]) (fun⟨b21,z23,p24⟩=>[zEw p24 ca ccap cs ba bcp bs (zyj S V bs x) (zzS S V bs x),AppR 3 1 Go.Stn.encI (some ⟨b21,0,none⟩) 1 ([cell]) pen z23,Row (some ⟨b21,0,none⟩) 1 1 3 Go.Stn.encI [cell],Box b10 [.bool false] 4,Box b9 [.slice pa pen.length pcap] 45,Box b7 [.int .i64 x.wide,.int .i64 x.high,.int .i64 x.step,.int .i64 x.leap,.int .i64 x.reach] 41,Box b6 [.slice ca cs.length ccap,.slice ba bs.length bcp] 40,Box b5 [.slice a S.length cap,.slice b V.length bcap] 37]) (sB rfl) rfl ?_)))))
 rintro ⟨b21,z23,p24⟩
 obtain⟨lb,⟨wa,wc⟩,⟨fa,fc⟩,F⟩:=p24
 refine zz4 fun hF=>zbP ?_
 have hF:F.map (·.2)=(zzS S V bs x):=hF
 refine zac (zac (gZ 8 (ph_y (zaf rfl) (ph_y (zcr rfl rfl) (ph_y (zaf rfl) (ziw rfl rfl (zah 7 tf45 rfl rfl rfl) (ziw rfl rfl (zaf rfl) (ziw rfl rfl (zaJ en59 rfl (fun w hw=>zKI _ _ pen cell w (rH hpn hw) (by first | assumption | (unfold zaP; omega)))) (ziw rfl rfl (zbR rfl) (ph_y (zaR rfl rfl rfl) (gN [9,10,11,34] rfl (zap rfl (fun hc34=>?_) (fun hc34=>?_)))))))))))))
 ·have hno:=zK9 (W:=(zyj S V bs x)) (cell:=cell) (pen:=pen) (by simpa using hc34)
  refine gS (zaA 6 tf4 rfl rfl (vs:=[_]) rfl rfl rfl rfl rfl (gN [9,10,11] rfl (zaw (zay (zaC rfl (zcy (i:=6) tf4 rfl rfl rfl)) ?_))))
  rw [hA,hno]
 ·have hhas:hasI pen cell=true:=by simpa using hc34
  refine zaq (zac (gS (gQ (zah 7 tf45 rfl rfl rfl) (gQ (zaV (Tryz.underlying45) rfl) (gM rfl (gN [9,10,11,35,36,37] rfl (zas (zKT (zK1 (X:=Int×List Nat) (fun⟨i,Ms⟩=>[(9,.pointer (some ⟨b9,0,none⟩)),(10,.pointer (some ⟨b10,0,none⟩)),(11,.pointer (some ⟨lb,0,none⟩)),(35,.slice pa pen.length pcap),(36,.int .i64 (pen.length:Int)),(37,.int .i64 i)]) (fun⟨i,Ms⟩=>[Dfrs Ms,Box lb [.slice ca cs.length ccap,.slice ba bs.length bcp,.slice wa (zyj S V bs x).length wc,.slice fa (F.map (·.1)).length fc] 128,Row wa 10 wc 148 zyw (zyj S V bs x),Row fa 1 fc 124 zy6 (F.map (·.1)),Go.K.Rows rowM F,AppR 3 1 Go.Stn.encI (some ⟨b21,0,none⟩) 1 ([cell]) pen z23,Row (some ⟨b21,0,none⟩) 1 1 3 Go.Stn.encI [cell],Box b10 [.bool false] 4,Box b9 [.slice pa pen.length pcap] 45,Box b7 [.int .i64 x.wide,.int .i64 x.high,.int .i64 x.step,.int .i64 x.leap,.int .i64 x.reach] 41,Box b6 [.slice ca cs.length ccap,.slice ba bs.length bcp] 40,Box b5 [.slice a S.length cap,.slice b V.length bcap] 37]) (fun⟨i,Ms⟩=>Ms) (fun⟨i,Ms⟩=>(0≤i∧i≤pen.length∧∀ j:Nat,(j:Int) < i→penT (zyj S V bs x) pen j=true)) (fun⟨i,Ms⟩=>(pen.length - i).toNat) (0,[]) rfl (sB rfl) rfl ?_ ?_)))))))))
  ·exact⟨by omega,by omega,fun j hj=>by omega⟩
  ·rintro ⟨i,Ms⟩ hI
   obtain⟨g0,g1,g2⟩:=hI
   refine gS (gQ (zbw rfl rfl) (gN [9,10,11,35,36,37,38] rfl (zac (zap rfl (fun hc38=>?_) (fun hc38=>?_)))))
   ·have hc38:=oT hc38
    refine zaq (zac (zas (gS (gM rfl (gQ (zaE se45 rfl rfl (fun _=>rH hpn)) (gQ (zcE tf3 rfl (fun _=>rH hpn) (by omega) (by omega) rfl) (gA rfl (gA rfl (gN [9,10,11,13,14,35,36,37] rfl (zih (X:=Unit) (fun _=>[(9,.pointer (some ⟨b9,0,none⟩)),(10,.pointer (some ⟨b10,0,none⟩)),(11,.pointer (some ⟨lb,0,none⟩)),(14,.int .i64 (pen.getD (i).toNat default)),(35,.slice pa pen.length pcap),(36,.int .i64 (pen.length:Int)),(37,.int .i64 i)]) (fun _=>[Dfrs Ms,Box lb [.slice ca cs.length ccap,.slice ba bs.length bcp,.slice wa (zyj S V bs x).length wc,.slice fa (F.map (·.1)).length fc] 128,Row wa 10 wc 148 zyw (zyj S V bs x),Row fa 1 fc 124 zy6 (F.map (·.1)),Go.K.Rows rowM F,AppR 3 1 Go.Stn.encI (some ⟨b21,0,none⟩) 1 ([cell]) pen z23,Row (some ⟨b21,0,none⟩) 1 1 3 Go.Stn.encI [cell],Box b10 [.bool false] 4,Box b9 [.slice pa pen.length pcap] 45,Box b7 [.int .i64 x.wide,.int .i64 x.high,.int .i64 x.step,.int .i64 x.leap,.int .i64 x.reach] 41,Box b6 [.slice ca cs.length ccap,.slice ba bs.length bcp] 40,Box b5 [.slice a S.length cap,.slice b V.length bcap] 37]) (fun _=>(i=0∨pen.getD (i.toNat - 1) default < pen.getD i.toNat default)) ?_ ?_))))))))))
    ·
     refine gS (gM rfl (gQ (zc6 rfl rfl) (gM rfl (zai rfl rfl rfl rfl (fun hg44=>?_) (fun hg44=>?_)))))
     ·replace hg44:_=true:=hg44
      try rw [hg44]
      refine gM rfl ?_
      have hg44:=oT hg44
      refine gT rfl rfl rfl (gQ (zah 8 tf45 rfl rfl rfl) (gT rfl rfl rfl (gM rfl (gT rfl rfl rfl (gQ (zfV rfl rfl) (gT rfl rfl rfl (gQ (zaE se45 rfl rfl (fun _=>rH hpn)) (gT rfl rfl rfl (gQ (zcE tf3 rfl (fun _=>rH hpn) (by omega) (by omega) rfl) (gT rfl rfl rfl (gQ (zeT rfl rfl) (gQ (za5 rfl rfl rfl) (gN [9,10,11,14,35,36,37,52] rfl (zap rfl (fun hc52=>?_) (fun hc52=>?_)))))))))))))))
      ·have hc52:=oT hc52
       have hno:=zKX (W:=(zyj S V bs x)) (cell:=cell) (pen:=pen) (i:=i.toNat) (by omega) (zK5 (by omega) (by rw [show i.toNat - 1=(i - 1).toNat from by omega]; exact hc52))
       refine gS (zaA 7 tf4 rfl rfl (vs:=[_]) rfl rfl rfl rfl rfl (gN [9,10,11,14,35,36,37] rfl (zaw (zKJ 0 rfl (zay (zaC rfl (zcy (i:=6) tf4 rfl rfl rfl)) ?_)))))
       rw [hA,hno]
      ·have hc52:=oD hc52
       refine zaq ?_
       exact zb9 () (sB rfl) rfl (by first | exact .inl (by have:=oD hg44; omega) | exact .inr (by rw [show i.toNat - 1=(i - 1).toNat from by omega]; omega))
     ·replace hg44:_=false:=hg44
      try rw [hg44]
      refine gF rfl rfl rfl (gF rfl rfl rfl (gF rfl rfl rfl (gF rfl rfl rfl (gF rfl rfl rfl (gF rfl rfl rfl (gQ (za5 rfl rfl rfl) (gN [9,10,11,14,35,36,37,52] rfl (zd8 rfl (zaq ?_)))))))))
      exact zb9 () (sB rfl) rfl (by first | exact .inl (by have:=oD hg44; omega) | exact .inr (by rw [show i.toNat - 1=(i - 1).toNat from by omega]; omega))
    ·rintro _ hJ
     refine gS (gM rfl (gM rfl (zaG rfl rfl (zbm en60 rfl (fun w hw=>zHf lb (pen.getD (i).toNat default) w)) fun p55=>zbP (gN [9,10,11,35,36,37,55] rfl (zas (gK [9,10,11,35,36,37,55] rfl ?_))))))
     refine zk1 (X:=Unit) (fun _u=>[Box p55.1 [.pointer (some ⟨lb,0,none⟩)] 106,Box p55.2 [.int .i64 (pen.getD (i).toNat default)] 3,Dfrs Ms,Box lb [.slice ca cs.length ccap,.slice ba bs.length bcp,.slice wa (zyj S V bs x).length wc,.slice fa (F.map (·.1)).length fc] 128,Row wa 10 wc 148 zyw (zyj S V bs x),Row fa 1 fc 124 zy6 (F.map (·.1)),Go.K.Rows rowM F,AppR 3 1 Go.Stn.encI (some ⟨b21,0,none⟩) 1 ([cell]) pen z23,Row (some ⟨b21,0,none⟩) 1 1 3 Go.Stn.encI [cell],Box b10 [.bool false] 4,Box b9 [.slice pa pen.length pcap] 45,Box b7 [.int .i64 x.wide,.int .i64 x.high,.int .i64 x.step,.int .i64 x.leap,.int .i64 x.reach] 41,Box b6 [.slice ca cs.length ccap,.slice ba bs.length bcp] 40,Box b5 [.slice a S.length cap,.slice b V.length bcap] 37]) (fun n _u=>∀ j:Nat,j < n→hasI pen ((outL (zyj S V bs x) (pen.getD i.toNat default)).getD j default).to=true) (fun _u=>penT (zyj S V bs x) pen i.toNat=false) [] () rfl en90 rfl rfl (fun j hj=>by omega) (zGj p55.1 p55.2 (pen.getD i.toNat default) lb wa fa wc fc (zyj S V bs x) F ca ccap cs ba bcp bs hWs) (fun _u w hw=>⟨hw.has (p:=0) rfl,hw.has (p:=1) rfl,hw.has (p:=3) rfl,zam zyl (hw.has (p:=4) rfl)⟩) (by intro a ha; obtain⟨c,_,rfl⟩:=List.mem_map.1 ha; rfl) rfl ?_ ?_ ?_ ?_
     ·rintro R1 R2 rl U' w' n _u args hget hR hrd hins hbeg
      obtain⟨hnl,rfl⟩:=zE4 hget
      refine gK [9,10,56] rfl (zaa (zaG rfl rfl (zaL zyD (zs:=[_,_,_,_,_]) rfl) fun b15=>(zaA 0 zyD rfl rfl (vs:=[_,_,_,_,_]) rfl rfl rfl rfl rfl (gN [9,10,15] rfl (zao 1 rfl (hbeg _ _ _ (zas (gS (gQ (zah 12 tf45 rfl rfl rfl) (gQ (zab zzb rfl) (gQ (zah 1 tf3 rfl rfl rfl) (gQ (zaJ en59 rfl (fun w hw=>zKI _ _ pen (((outL (zyj S V bs x) (pen.getD i.toNat default)).getD n default).to) w (Rd.has (hrd _ (Has.rd hpn)) hw) (by first | assumption | (unfold zaP; omega)))) (gQ (zbR rfl) (gN [10,61] rfl (zap rfl (fun hc61=>?_) (fun hc61=>?_))))))))))))))))
      ·have hc61:hasI pen ((outL (zyj S V bs x) (pen.getD i.toNat default)).getD n default).to=false:=by simpa using hc61
       refine gS (zaA 11 tf4 rfl rfl (vs:=[_]) rfl rfl rfl rfl rfl (gN [10] rfl (zaw (zaK 1 rfl ?_))))
       exact zb9 () trivial rfl (by exact zK4 hnl hc61)
      ·have hc61:hasI pen ((outL (zyj S V bs x) (pen.getD i.toNat default)).getD n default).to=true:=by simpa using hc61
       refine zaq (zaK 1 rfl ?_)
       exact zb9 () trivial rfl (fun j hj=>if h:j < n then hR j h else(by rw [show j=n from by omega]; exact hc61))
     ·intro Dm _u hR
      have hpt:penT (zyj S V bs x) pen i.toNat=true:=zKS (hJ.imp (fun h=>by omega) id) (fun j hj=>hR j (by rwa [lM]))
      refine zaa (gQ (zaY rfl rfl) (gM rfl (gN [9,10,11,35,36,37] rfl (zao 3 rfl (zao 1 rfl (zbT 2 (zaK 1 rfl (zaK 1 rfl ?_))))))))
      exact zK2 (i+1,(Dm :: Ms)) rfl (sB rfl) rfl ⟨by omega,by omega,fun j hj=>if h:(j:Int) < i then g2 j h else(by rw [show j=i.toNat from by omega]; exact hpt)⟩ (by simp only []; omega)
     ·rintro Dm _u hD
      have hno:=zKX (cell:=cell) (by omega) hD
      refine zil 0 rfl (zKJ 2 rfl (zay (zaC rfl (zcy (i:=8) tf4 rfl rfl rfl)) ?_))
      rw [hA,hno]
     ·exact fun _ _ _ _ h=>absurd h (by simp)
   ·have hc38:=oD hc38
    have hyes:=zKY (W:=(zyj S V bs x)) hhas (fun j hj=>g2 j (by omega))
    refine za8 rfl (gS (zaA 7 tf4 rfl rfl (vs:=[_]) rfl rfl rfl rfl rfl (gN [10] rfl (zaw (zKJ 0 rfl (zay (zaC rfl (zcy (i:=6) tf4 rfl rfl rfl)) ?_))))))
    rw [hA,hyes]
theorem zKP (a:Option Addr) (cap:Nat) (S:List ShC) (b:Option Addr) (bcap:Nat) (V:List WlC) (ca:Option Addr) (ccap:Nat) (cs:List ByteArray) (ba:Option Addr) (bcp:Nat) (bs:List Bdr) (x:Anm) (cell:Int) (pa:Option Addr) (pcap:Nat) (pen:List Int) (w:World) (hl:Has w (zaW a 20 zbH S)) (hs:zaP S.length) (hcS:S.length≤cap) (hlw:Has w (zaW b 4 zbS V)) (hsw:zaP V.length) (hsh:∀ z∈S,Has w (Ints z.a z.s.heights)) (hss:∀ z∈S,zaP z.s.heights.length) (hwo:∀ z∈V,Has w (zaW z.a 5 zba z.s.opens)) (hsv:∀ z∈V,zaP z.s.opens.length) (hcp:∀ z∈V,z.s.opens.length≤z.cap) (hkn:∀ z∈V,∀ o∈z.s.opens,Knd o) (hc:Has w (zaW ca 1 encS cs)) (hcs:zaP cs.length) (hcap:cs.length≤ccap) (hbd:Has w (zaW ba 6 zyr bs)) (hbs:zaP bs.length) (hpn:Has w (Ints pa pen)) (hps:pen.length≤45) (hne:¬ atE S V cs bs x (cell :: pen)=0) :
  Calls Tryz.prog 27 #[.agg #[.slice a S.length cap,.slice b V.length bcap],.agg #[.slice ca cs.length ccap,.slice ba bs.length bcp],.agg #[.int .i64 x.wide,.int .i64 x.high,.int .i64 x.step,.int .i64 x.leap,.int .i64 x.reach],.int .i64 cell,.slice pa pen.length pcap] w (Pure (.bool (penA S V cs bs x cell pen)) w):=by
 refine zan (vs:=[_,_,_,_,_]) Tryz.func27 rfl rfl (bL rfl) (gS (zaG rfl rfl (za3 (vs:=[_,_]) rfl rfl) fun b5=>(zaG rfl rfl (za3 (vs:=[_,_]) rfl rfl) fun b6=>(zaG rfl rfl (za3 (vs:=[_,_,_,_,_]) rfl rfl) fun b7=>(zaG rfl rfl (za3 (vs:=[_]) rfl rfl) fun b9=>(zaG rfl rfl (zaL tf4 (zs:=[_]) rfl) fun b10=>(gN [3,5,6,7,9,10] rfl (zac (zCs [] (ch [(4,Nat),(6,(Option Addr×Nat)),(7,(Nat×(Option Addr×Nat)×(Option Addr×Nat)×List (Nat×List (Bool×Bool))))]) 1000 13 [0,0,0,0,8,0,56,127,255,511,511,1023,4095] [] rfl (fun _=>mixed) (by kernel_rfl) (zjK _ ⟨inferInstance,inferInstance,inferInstance,trivial⟩) (pY (fun ρ=>zat (b:=b5) (cs:=[.slice a S.length cap,.slice b V.length bcap]) (e:=37) 4 tf37 rfl (by kernel_rfl) (vs:=[_,_]) rfl rfl) (pY (fun ρ=>zat (b:=b6) (cs:=[.slice ca cs.length ccap,.slice ba bs.length bcp]) (e:=40) 3 tf40 rfl (by kernel_rfl) (vs:=[_,_]) rfl rfl) (pY (fun ρ=>zat (b:=b7) (cs:=[.int .i64 x.wide,.int .i64 x.high,.int .i64 x.step,.int .i64 x.leap,.int .i64 x.reach]) (e:=41) 2 tf41 rfl (by kernel_rfl) (vs:=[_,_,_,_,_]) rfl rfl) (pY (fun ρ=>zaf rfl) (zFy (fun ρ=>zaD rfl (zA3 _) Go.Stn.encI_ok rfl) (fun ρ ρ' h=>⟨by rfl,by rfl⟩) ?_))))))))))))))
 refine pY (fun ρ=>zah (b:=b9) (cs:=[.slice pa pen.length pcap]) (e:=45) 1 tf45 rfl (by kernel_rfl) rfl) (zFy (fun ρ=>zKN (l:=([cell])) (m:=pen) af45 Go.Stn.encI_ok rfl rfl (fun _ hw=>hw.has (p:=0) (R:=Row (some ⟨(ρ 4),0,none⟩) 1 1 3 Go.Stn.encI [cell]) (by simp only [zeS,tIs,okSt,rcf,zbe]; rfl)) (fun _=>rH hpn) (by show(1+pen.length)*_≤_; omega) (by show 1+pen.length≤maxLen; unfold maxLen; omega) rfl) (fun ρ ρ' h=>⟨by(first | rfl | (simp only [h 4 rfl]; done) | (simp only [h 4 rfl]; rfl)),by(first | rfl | (simp only [h 4 rfl]; done) | (simp only [h 4 rfl]; rfl))⟩) (zFy (fun ρ=>zbm en46 rfl (fun w hw=>zDs _ _ S _ _ V _ _ cs _ _ bs x _ _ (cell :: pen) w (rH hl hw) hs hcS (rH hlw hw) hsw (fun z hz=>(rH (hsh z hz) hw)) hss (fun z hz=>(rH (hwo z hz) hw)) hsv hcp hkn (rH hc hw) hcs hcap (rH hbd hw) hbs (zKR Go.Stn.encI_ok (hw.has (p:=1) (R:=Row (some ⟨(ρ 4),0,none⟩) 1 1 3 Go.Stn.encI [cell]) (by simp only [zeS,tIs,okSt,rcf,zbe]; rfl)) (hw.has (p:=0) (R:=AppR 3 1 Go.Stn.encI (some ⟨(ρ 4),0,none⟩) 1 ([cell]) pen (ρ 6)) (by simp only [zeS,tIs,okSt,rcf,zbe]; rfl))) (by show zaP (pen.length+1); unfold zaP; omega) hne)) (fun ρ ρ' h=>⟨by rfl,by rfl⟩) (pY (fun ρ=>zaf rfl) (pY (fun ρ=>zaB rfl rfl) (pY (fun ρ=>zaB rfl rfl) (pY (fun ρ=>zad rfl) (pY (fun ρ=>zad rfl) ?_)))))))
 refine fun ρ=>zag (zf4 (X:=Nat×(Option Addr×Nat)×(Nat×(Option Addr×Nat)×(Option Addr×Nat)×List (Nat×List (Bool×Bool)))) (ρ 4,ρ 6,ρ 7) (fun⟨b21,z23,p24⟩=>[(3,.int .i64 cell),(9,.pointer (some ⟨b9,0,none⟩)),(10,.pointer (some ⟨b10,0,none⟩)),(11,.pointer none),(12,.int .i64 (atE S V cs bs x (cell :: pen)))]) (fun⟨b21,z23,p24⟩=>[Emp,AppR 3 1 Go.Stn.encI (some ⟨b21,0,none⟩) 1 ([cell]) pen z23,Row (some ⟨b21,0,none⟩) 1 1 3 Go.Stn.encI [cell],Box b10 [.bool false] 4,Box b9 [.slice pa pen.length pcap] 45,Box b7 [.int .i64 x.wide,.int .i64 x.high,.int .i64 x.step,.int .i64 x.leap,.int .i64 x.reach] 41,Box b6 [.slice ca cs.length ccap,.slice ba bs.length bcp] 40,Box b5 [.slice a S.length cap,.slice b V.length bcap] 37]) (sB rfl) rfl ?_)
 rintro ⟨b21,z23,p24⟩
 refine zac (zac (gZ 8 (ph_y (zaf rfl) (ph_y (zbQ (zcr rfl rfl) (by simpa using hne)) (ph_y (zaf rfl) (zaz rfl rfl (fun jj=>by(try rw [jj]); exact zah 4 tf45 rfl rfl rfl) (zaz rfl rfl (fun jj=>by(try rw [jj]); exact zaf rfl) (zaz rfl rfl (fun jj=>by(try rw [jj]); exact zaJ (v:=.bool (hasI pen cell)) en59 rfl (fun w hw=>zKI _ _ pen cell w (rH hpn hw) (by first | assumption | (unfold zaP; omega)))) (zaz rfl rfl (fun jj=>by(try rw [jj]); exact zbR rfl) (ph_y (za5 rfl rfl rfl) (gN [9,10,11,34] rfl (zdg rfl (gS (zaA 3 tf4 rfl rfl (vs:=[_]) rfl rfl rfl rfl rfl (gN [9,10,11] rfl (zaw (zay (zaC rfl (zcy (i:=3) tf4 rfl rfl rfl)) ?_)))))))))))))))))
 rw [zK7 hne]
theorem zKM (a:Option Addr) (cap:Nat) (S:List ShC) (b:Option Addr) (bcap:Nat) (V:List WlC) (ca:Option Addr) (ccap:Nat) (cs:List ByteArray) (ba:Option Addr) (bcp:Nat) (bs:List Bdr) (x:Anm) (cell:Int) (pa:Option Addr) (pcap:Nat) (pen:List Int) (w:World) (hl:Has w (zaW a 20 zbH S)) (hs:zaP S.length) (hcS:S.length≤cap) (hlw:Has w (zaW b 4 zbS V)) (hsw:zaP V.length) (hsh:∀ z∈S,Has w (Ints z.a z.s.heights)) (hss:∀ z∈S,zaP z.s.heights.length) (hwo:∀ z∈V,Has w (zaW z.a 5 zba z.s.opens)) (hsv:∀ z∈V,zaP z.s.opens.length) (hcp:∀ z∈V,z.s.opens.length≤z.cap) (hkn:∀ z∈V,∀ o∈z.s.opens,Knd o) (hc:Has w (zaW ca 1 encS cs)) (hcs:zaP cs.length) (hcap:cs.length≤ccap) (hbd:Has w (zaW ba 6 zyr bs)) (hbs:zaP bs.length) (hpn:Has w (Ints pa pen)) (hps:pen.length≤45):Calls Tryz.prog 27 #[.agg #[.slice a S.length cap,.slice b V.length bcap],.agg #[.slice ca cs.length ccap,.slice ba bs.length bcp],.agg #[.int .i64 x.wide,.int .i64 x.high,.int .i64 x.step,.int .i64 x.leap,.int .i64 x.reach],.int .i64 cell,.slice pa pen.length pcap] w (Pure (.bool (penA S V cs bs x cell pen)) w):=by
 by_cases hat:atE S V cs bs x (cell :: pen)=0
 ·exact zKQ a cap S b bcap V ca ccap cs ba bcp bs x cell pa pcap pen w hl hs hcS hlw hsw hsh hss hwo hsv hcp hkn hc hcs hcap hbd hbs hpn hps hat
 ·exact zKP a cap S b bcap V ca ccap cs ba bcp bs x cell pa pcap pen w hl hs hcS hlw hsw hsh hss hwo hsv hcp hkn hc hcs hcap hbd hbs hpn hps hat
end Go.Proofs.YteepmmghanbllaaGreatDoor
namespace Go.Fld
open Go Go.K Go.Stn Go.Pln
section
variable {S S2:List ShC} {V V2:List WlC} {cs:List ByteArray} {bs:List Bdr} {x:Anm} (h:S2.map (·.s)=S.map (·.s)) (h2:V2.map (·.s)=V.map (·.s))
include h h2
theorem zKL (cell:Int) (pen:List Int):penA S2 V2 cs bs x cell pen=penA S V cs bs x cell pen:=by unfold penA; rw [zIk h h2,zCu h h2]
end
section
variable {S:List ShC} {V:List WlC} {cs:List ByteArray} {bs:List Bdr} {x:Anm} {cell:Int} {pen:List Int}
theorem zKA (hok:zym S V cs bs x=true) {l:List Int} (h:∀ z∈l,0≤z∧z < cs.length):atE S V cs bs x l=0:=
 zFF hok (List.any_eq_false.2 fun z hz=>by
  have:=h z hz
  unfold outC inZ
  rw [decide_eq_true this.1,decide_eq_true (by omega:z≤(cs.length:Int) - 1)]; decide)
theorem zKU (hok:zym S V cs bs x=true) (h0:0≤cell) (h1:cell < cs.length):penA S V cs bs x cell (zAs (zze (zyj S V bs x) allM cell) 40)=true:=by
 obtain⟨_,hcs,_⟩:=zzD hok
 obtain⟨k1,k2⟩:=zKZ (zFe hok) (zIr hok) hcs.2 h0 h1
 rw [zKV (zKA hok fun z hz=>?_)]
 ·exact k1
 ·rcases List.mem_cons.1 hz with e | e
  ·rw [e]; exact⟨h0,h1⟩
  ·exact k2 z e
theorem zK6 (hok:zym S V cs bs x=true) (h0:0≤cell) (h1:cell < cs.length) (hp:penA S V cs bs x cell pen=true) {z:Int} (hz:z∈zAs (zze (zyj S V bs x) allM cell) 40):hasI pen z=true:=by
 obtain⟨_,hcs,_⟩:=zzD hok
 unfold penA at hp
 rw [aT] at hp
 obtain⟨a,b,c⟩:=zKs.1 hz
 have hr:=(zIF (zFe hok) h0 (show cell < 40 by omega)).1 c
 rw [tN a] at hr
 exact zIR.2 (zK8 hp.2 hr)
end
theorem zKD {l:List Int} {i n:Int} (h0:0≤i) (h:i < (l.length:Int)):hasI (l.take (i+1).toNat) n=(hasI (l.take i.toNat) n||decide (l.getD i.toNat default=n)):=by
 rw [show(i+1).toNat=i.toNat+1 from by omega,List.take_add_one,eG (by omega),gE,eG (by omega)]
 unfold hasI
 rw [List.any_append]
 simp only [Option.toList,List.any_cons,List.any_nil,Bool.or_false,Option.getD_some,eq_comm]
theorem zKv {l:List Int} {n:Int} {i:Nat} (h:l.length≤i):hasI (l.take i) n=hasI l n:=by rw [List.take_of_length_le h]
end Go.Fld
namespace Go.Proofs.YteepmmghanbllaaGreatDoor
open Go.K Go.Stn Go.Pln Go.Fld Go.RowKit
theorem en27:En Tryz.prog 27:=eK Tryz.func27
theorem FieldPens_c (a:Option Addr) (cap:Nat) (S:List ShC) (b:Option Addr) (bcap:Nat) (V:List WlC) (ca:Option Addr) (ccap:Nat) (cs:List ByteArray) (ba:Option Addr) (bcp:Nat) (bs:List Bdr) (x:Anm) (frm:Int) (pa:Option Addr) (pcap:Nat) (pen:List Int) (w:World) (hl:Has w (zaW a 20 zbH S)) (hs:S.length≤764877654104) (hlw:Has w (zaW b 4 zbS V)) (hsw:V.length≤2199023255552) (hsh:∀ z∈S,Has w (Ints z.a z.s.heights)) (hss:∀ z∈S,z.s.heights.length≤17592186044416) (hwo:∀ z∈V,Has w (zaW z.a 5 zba z.s.opens)) (hsv:∀ z∈V,z.s.opens.length≤3518437208883) (hfS:∀ z∈S,Fits z.s.name.size) (hc:Has w (zaW ca 1 encS cs)) (hcn:cs.length≤8796093022208) (hbd:Has w (zaW ba 6 zyr bs)) (hbn:bs.length≤2513169434915) (hcS:S.length≤cap) (hcpw:∀ z∈V,z.s.opens.length≤z.cap) (hkn:∀ z∈V,∀ o∈z.s.opens,Knd o) (hfV:∀ z∈V,Fits z.s.name.size) (hco:∀ z∈S,0≤z.s.cope) (hcf:∀ z∈cs,Fits z.size) (hcap:cs.length≤ccap) (hmx:Has w (IntV 2)) (hcp:Has w (zaW (some ⟨1,0,none⟩) 1 encS zeZ)) (hop:Has w (zaW (some ⟨0,0,none⟩) 1 encS opensW)) (hpn:Has w (Ints pa pen)) :
  Calls Tryz.prog 6 #[.agg #[.slice a S.length cap,.slice b V.length bcap,.slice ca cs.length ccap,.slice ba bs.length bcp,.int .i64 x.wide,.int .i64 x.high,.int .i64 x.step,.int .i64 x.leap,.int .i64 x.reach],.int .i64 frm,.slice pa pen.length pcap] w (Pure (.bool true) w):=by
 refine zan (vs:=[_,_,_]) Tryz.func6 rfl rfl (bL rfl) (gS (zaG rfl rfl (za3 (vs:=[_,_,_,_,_,_,_,_,_]) rfl rfl) fun b3=>(gA rfl (gN [1,2,3,6] rfl (gS (gQ (zat 0 tf33 rfl rfl (vs:=[_,_,_,_,_,_,_,_,_]) rfl rfl) (zaG rfl rfl (zbm en13 rfl (fun w hw=>zG1 _ _ S _ _ V _ _ cs _ _ bs x w (rH hl hw) hs (rH hlw hw) hsw (fun z hz=>(rH (hsh z hz) hw)) hss (fun z hz=>(rH (hwo z hz) hw)) hsv hfS (rH hc hw) hcn (rH hbd hw) hbn)) fun p18=>(gM rfl (gQ (zaB rfl rfl) (gQ (zaB rfl rfl) (gQ (zaB rfl rfl) (gQ (zaB rfl rfl) (zaG rfl rfl (zaL tf37 (zs:=[_,_]) rfl) fun b7=>(zaG rfl rfl (zaL tf40 (zs:=[_,_]) rfl) fun b8=>(zaG rfl rfl (zaL tf41 (zs:=[_,_,_,_,_]) rfl) fun b9=>(zaA 2 tf37 rfl rfl (vs:=[_,_]) rfl rfl rfl rfl rfl (zaA 1 tf40 rfl rfl (vs:=[_,_]) rfl rfl rfl rfl rfl (zaA 0 tf41 rfl rfl (vs:=[_,_,_,_,_]) rfl rfl rfl rfl rfl (gA rfl (gN [1,2,3,6,7,8,9,10] rfl (zao 3 rfl (zbP (zac (gS (gM rfl (gQ (zbR rfl) (gM rfl (zai rfl rfl rfl rfl (fun hg25=>?_) (fun hg25=>?_)))))))))))))))))))))))))))))
 ·replace hg25:_=false:=hg25
  try rw [hg25]
  refine gQ (zat 6 tf33 rfl rfl (vs:=[_,_,_,_,_,_,_,_,_]) rfl rfl) ?_
  obtain⟨⟨⟨ra,rc,S2⟩,⟨rb,rd,V2⟩⟩,⟨rca,rcc⟩,⟨rba,rbc⟩⟩:=p18
  refine zjk fun hS2 hV2=>?_
  have hS2:S2.map (·.s)=S.map (·.s):=hS2
  have hV2:V2.map (·.s)=V.map (·.s):=hV2
  obtain⟨hsmp,hcs45,hbs90⟩:=zEj (by simpa using hg25)
  have hsm:=zmC (S:=S) (V:=V) hsmp
  obtain⟨hss2,hsv2,hsw2,hS1,hV1⟩:=zjv hsm
  have hs2:zaP S.length:=by have:=hsm.ls; unfold zaP; omega
  have hcs2:zaP cs.length:=by unfold zaP; omega
  have hbs2:zaP bs.length:=by unfold zaP; omega
  obtain⟨l1,l2,y1,y2,y3,y4,ykn⟩:=zxG hsm hkn hS2 hV2
  refine za2 (R':=Box b7 [.slice ra S2.length rc,.slice rb V2.length rd] 37) 8 rfl (fun B w hA=>hA) (za2 (R':=Box b8 [.slice rca cs.length rcc,.slice rba bs.length rbc] 40) 7 rfl (fun B w hA=>hA) (gT rfl rfl rfl (gQ (zaJ en17 rfl (fun w hw=>zEO _ _ S _ _ V _ _ cs _ _ bs x w (rH hl hw) hs2 hcS (rH hlw hw) hsw2 (fun z hz=>(rH (hsh z hz) hw)) hss2 (fun z hz=>(rH (hwo z hz) hw)) hsv2 hcpw hkn (rH hc hw) hcs2 hcap (rH hbd hw) hbs2 hfS hfV hco hcf)) (gT rfl rfl rfl (gQ (zbR rfl) (gQ (za5 rfl rfl rfl) (gM rfl (zai rfl rfl rfl rfl (fun hg30=>?_) (fun hg30=>?_)))))))))
  ·replace hg30:_=false:=hg30
   try rw [hg30]
   refine gQ (zab zz0 rfl) ?_
   have hok:zym S V cs bs x=true:=by simpa using hg30
   refine gT rfl rfl rfl (gQ (zat 9 tf29 rfl rfl (vs:=[_,_]) rfl rfl) (gT rfl rfl rfl (gM rfl (gT rfl rfl rfl (gQ (zaJ en20 rfl (fun w hw=>zEc _ _ cs _ _ bs frm w)) (gT rfl rfl rfl (gQ (zbR rfl) (gQ (za5 rfl rfl rfl) (gM rfl (zai rfl rfl rfl rfl (fun hg37=>?_) (fun hg37=>?_)))))))))))
   ·replace hg37:_=false:=hg37
    try rw [hg37]
    refine gM rfl ?_
    have hoc:zBG cs.length frm=true:=by simpa using hg37
    have hfz:0≤frm∧frm < cs.length:=by unfold zBG at hoc; simpa only [aT,dT] using hoc
    have f0:=hfz.1
    have f1:=hfz.2
    refine gT rfl rfl rfl (gQ (zaV (Tryz.underlying45) rfl) (gT rfl rfl rfl (gQ (zc6 rfl rfl) (gQ (za5 rfl rfl rfl) (gN [1,2,6,7,8,9,41] rfl (zap rfl (fun hc41=>?_) (fun hc41=>?_)))))))
    ·
     refine gS (gQ (zaJ en14 rfl (fun w hw=>zz3 w (rH hmx hw) (rH hcp hw) (rH hop hw))) (gA rfl (gN [1,2,6,7,8,9] rfl (zaw (zay (zaC rfl (zau rfl)) ?_)))))
     rfl
    ·have hpl:pen.length≤45:=by have:=oD hc41; omega
     have hA0:=zFF (l:=[frm]) hok (by simp only [List.any_cons,List.any_nil,Bool.or_false]; rw [zIN,hoc]; rfl)
     have hA:=(zIk (cs:=cs) (bs:=bs) (x:=x) hS2 hV2 [frm]).trans hA0
     have hra:(rchA S2 V2 cs bs x frm)=zAs (zze (zyj S V bs x) allM frm) 40:=(zIZ hS2 hV2 frm).trans (if_pos hA0)
     have hrl:(rchA S2 V2 cs bs x frm).length≤45:=by rw [hra]; exact Nat.le_trans zEq (by decide)
     have hpr:penA S2 V2 cs bs x frm (rchA S2 V2 cs bs x frm)=true:=by rw [zKL hS2 hV2,hra]; exact zKU hok f0 f1
     refine zaq (gS (gQ (zat 8 tf37 rfl rfl (vs:=[_,_]) rfl rfl) (gQ (zat 7 tf40 rfl rfl (vs:=[_,_]) rfl rfl) (gQ (zat 6 tf41 rfl rfl (vs:=[_,_,_,_,_]) rfl rfl) (gM rfl (zaG rfl rfl (zbm en15 rfl (fun w hw=>zE5 _ _ S2 _ _ V2 _ _ cs _ _ bs x frm w (zam zbI (hw.has (p:=0) rfl)) y1 (zcM (hw.has (p:=0) rfl)) (zam zbo (hw.has (p:=2) rfl)) y2 (fun z hz2=>zam Go.Stn.encI_ok (zbV (f:=rowH 3) (hw.has (p:=1) rfl) hz2)) y3 (fun z hz2=>zam zyn (zbV (f:=rowO 122) (hw.has (p:=3) rfl) hz2)) y4 (fun z hz2=>zcM (zbV (f:=rowO 122) (hw.has (p:=3) rfl) hz2)) ykn (zam ztJ (hw.has (p:=4) rfl)) hcs2 (zcM (hw.has (p:=4) rfl)) (zam zyx (hw.has (p:=5) rfl)) hbs2)) fun p48=>(gM rfl (gQ (zaB rfl rfl) (gQ (zaB rfl rfl) (gA rfl (gA rfl (gN [1,2,6,7,8,9,11,12] rfl (zac (gS (gM rfl (gQ (zdB (b':=false) (zcr rfl rfl) (by rw [hA]; rfl)) (gM rfl (gT rfl rfl rfl (gQ (zat 9 tf37 rfl rfl (vs:=[_,_]) rfl rfl) (gT rfl rfl rfl (gQ (zat 8 tf40 rfl rfl (vs:=[_,_]) rfl rfl) (gT rfl rfl rfl (gQ (zat 7 tf41 rfl rfl (vs:=[_,_,_,_,_]) rfl rfl) (gT rfl rfl rfl (gM rfl (gT rfl rfl rfl (gM rfl (gT rfl rfl rfl ?_))))))))))))))))))))))))))))
     refine gQ (zbQ (b:=(penA S2 V2 cs bs x frm (rchA S2 V2 cs bs x frm))) (zaJ en27 rfl (fun w hw=>zKM _ _ S2 _ _ V2 _ _ cs _ _ bs x frm _ _ (rchA S2 V2 cs bs x frm) w (zam zbI (hw.has (p:=1) rfl)) y1 (zcM (hw.has (p:=1) rfl)) (zam zbo (hw.has (p:=3) rfl)) y2 (fun z hz2=>zam Go.Stn.encI_ok (zbV (f:=rowH 3) (hw.has (p:=2) rfl) hz2)) y3 (fun z hz2=>zam zyn (zbV (f:=rowO 122) (hw.has (p:=4) rfl) hz2)) y4 (fun z hz2=>zcM (zbV (f:=rowO 122) (hw.has (p:=4) rfl) hz2)) ykn (zam ztJ (hw.has (p:=5) rfl)) hcs2 (zcM (hw.has (p:=5) rfl)) (zam zyx (hw.has (p:=6) rfl)) hbs2 (zam Go.Stn.encI_ok (hw.has (p:=0) rfl)) (by first | exact hrl | omega))) (by exact hpr)) (gT rfl rfl rfl (gQ (zdB (b':=false) (zbR rfl) (by rfl)) (gQ (za5 rfl rfl rfl) (gN [1,2,6,7,8,9,11,61] rfl (zd8 rfl (zaq (zac (gS (gQ (zat 9 tf37 rfl rfl (vs:=[_,_]) rfl rfl) (gQ (zat 8 tf40 rfl rfl (vs:=[_,_]) rfl rfl) (gQ (zat 7 tf41 rfl rfl (vs:=[_,_,_,_,_]) rfl rfl) (gM rfl (gM rfl ?_)))))))))))))
     refine gQ (zaJ en27 rfl (fun w hw=>zKM _ _ S2 _ _ V2 _ _ cs _ _ bs x frm _ _ pen w (zam zbI (hw.has (p:=1) rfl)) y1 (zcM (hw.has (p:=1) rfl)) (zam zbo (hw.has (p:=3) rfl)) y2 (fun z hz2=>zam Go.Stn.encI_ok (zbV (f:=rowH 3) (hw.has (p:=2) rfl) hz2)) y3 (fun z hz2=>zam zyn (zbV (f:=rowO 122) (hw.has (p:=4) rfl) hz2)) y4 (fun z hz2=>zcM (zbV (f:=rowO 122) (hw.has (p:=4) rfl) hz2)) ykn (zam ztJ (hw.has (p:=5) rfl)) hcs2 (zcM (hw.has (p:=5) rfl)) (zam zyx (hw.has (p:=6) rfl)) hbs2 (rH hpn hw) (by first | exact hrl | omega))) (gN [2,6,11,67] rfl (zap rfl (fun hc67=>?_) (fun hc67=>?_)))
     ·have hin:∀ z∈(rchA S2 V2 cs bs x frm),hasI pen z=true:=fun z hz=>zK6 hok f0 f1 (by rw [←zKL hS2 hV2]; exact hc67) (by rw [←hra]; exact hz)
      refine gS (gA rfl (gN [2,6,11,13] rfl (zas (zbf (X:=Int) (fun(k:Int)=>[(2,.slice pa pen.length pcap),(6,.bool false),(11,.slice p48.1 (rchA S2 V2 cs bs x frm).length p48.2),(13,.int .i64 k)]) (fun(k:Int)=>[Row p48.1 1 p48.2 3 Go.Stn.encI (rchA S2 V2 cs bs x frm),Row ra 20 rc 118 zbH S2,Go.K.Rows (rowH 3) S2,Row rb 4 rd 116 zbS V2,Go.K.Rows (rowO 122) V2,Row rca 1 rcc 9 encS cs,Row rba 6 rbc 64 zyr bs,Box b9 [.int .i64 x.wide,.int .i64 x.high,.int .i64 x.step,.int .i64 x.leap,.int .i64 x.reach] 41,Box b8 [.slice rca cs.length rcc,.slice rba bs.length rbc] 40,Box b7 [.slice ra S2.length rc,.slice rb V2.length rd] 37,Box b3 [.slice a S.length cap,.slice b V.length bcap,.slice ca cs.length ccap,.slice ba bs.length bcp,.int .i64 x.wide,.int .i64 x.high,.int .i64 x.step,.int .i64 x.leap,.int .i64 x.reach] 33]) (fun(k:Int)=>(0≤k∧k≤(rchA S2 V2 cs bs x frm).length)) (fun(k:Int)=>((rchA S2 V2 cs bs x frm).length - k).toNat) 0 ⟨rfl,rfl,rfl,rfl,trivial⟩ rfl ?_ ?_))))
      ·exact⟨by omega,by omega⟩
      ·rintro k hI
       obtain⟨g0,g1⟩:=hI
       refine zac (gS (gM rfl (gM rfl (gQ (zaV (Tryz.underlying45) rfl) (gQ (zbw rfl rfl) (gN [2,6,11,13,71] rfl (zap rfl (fun hc71=>?_) (fun hc71=>?_))))))))
       ·have hc71:=oT hc71
        refine zaq (zac (zas (gS (gA rfl (gN [2,6,11,13,14] rfl (zac (gS (gA rfl (gN [2,6,11,13,14,15] rfl (zas (zbf (X:=Int×Bool) (fun⟨j,q⟩=>[(2,.slice pa pen.length pcap),(6,.bool false),(11,.slice p48.1 (rchA S2 V2 cs bs x frm).length p48.2),(13,.int .i64 k),(14,.bool q),(15,.int .i64 j)]) (fun⟨j,q⟩=>[Row p48.1 1 p48.2 3 Go.Stn.encI (rchA S2 V2 cs bs x frm),Row ra 20 rc 118 zbH S2,Go.K.Rows (rowH 3) S2,Row rb 4 rd 116 zbS V2,Go.K.Rows (rowO 122) V2,Row rca 1 rcc 9 encS cs,Row rba 6 rbc 64 zyr bs,Box b9 [.int .i64 x.wide,.int .i64 x.high,.int .i64 x.step,.int .i64 x.leap,.int .i64 x.reach] 41,Box b8 [.slice rca cs.length rcc,.slice rba bs.length rbc] 40,Box b7 [.slice ra S2.length rc,.slice rb V2.length rd] 37,Box b3 [.slice a S.length cap,.slice b V.length bcap,.slice ca cs.length ccap,.slice ba bs.length bcp,.int .i64 x.wide,.int .i64 x.high,.int .i64 x.step,.int .i64 x.leap,.int .i64 x.reach] 33]) (fun⟨j,q⟩=>(0≤j∧j≤pen.length∧q=hasI (pen.take j.toNat) ((rchA S2 V2 cs bs x frm).getD k.toNat default))) (fun⟨j,q⟩=>(pen.length - j).toNat) (0,false) (sB rfl) rfl ?_ ?_)))))))))))
        ·exact⟨by omega,by omega,rfl⟩
        ·rintro ⟨j,q⟩ hI
         obtain⟨h0,h1,h2⟩:=hI
         refine zac (gS (gM rfl (gM rfl (gQ (zaV (Tryz.underlying45) rfl) (gQ (zbw rfl rfl) (gN [2,6,11,13,14,15,77] rfl (zap rfl (fun hc77=>?_) (fun hc77=>?_))))))))
         ·have hc77:=oT hc77
          refine zaq (zac (zas (gZ 13 (ph_y (zaf rfl) (ph_y (zaf rfl) (zaz rfl rfl (fun jj=>by(try rw [jj]); exact zaf rfl) (zaz rfl rfl (fun jj=>by(try rw [jj]); exact zaf rfl) (zaz rfl rfl (fun jj=>by(try rw [jj]); exact zaE se45 rfl rfl (fun _=>rH hpn)) (zaz rfl rfl (fun jj=>by(try rw [jj]); exact zcE tf3 rfl (fun _=>rH hpn) (by omega) (by omega) rfl) (zaz rfl rfl (fun jj=>by(try rw [jj]); exact zaf rfl) (zaz rfl rfl (fun jj=>by(try rw [jj]); exact zaf rfl) (zaz rfl rfl (fun jj=>by(try rw [jj]); exact zaE se45 rfl rfl (fun _ hw=>(zam Go.Stn.encI_ok (hw.has (p:=0) rfl)))) (zaz rfl rfl (fun jj=>by(try rw [jj]); exact zcE tf3 rfl (fun _ hw=>(zam Go.Stn.encI_ok (hw.has (p:=0) rfl))) (by omega) (by omega) rfl) (zaz rfl rfl (fun jj=>by(try rw [jj]); exact zbL rfl rfl) (ph_y (zaR rfl rfl rfl) (ph_y (zad rfl) (gN [2,6,11,13,14,15] rfl (zaa (gM rfl (gQ (zaY rfl rfl) (gA rfl (gN [2,6,11,13,14,15] rfl ?_))))))))))))))))))))))
          exact za1 (j+1,_) (sB rfl) rfl ⟨by omega,by omega,by rw [zKD h0 hc77,←h2]⟩ (by simp only []; omega)
         ·have hc77:=oD hc77
          have hb:q=true:=by rw [h2,zKv (by omega)]; exact hin _ (za0 (by omega))
          refine za8 rfl (gS (gM rfl (gQ (zbR rfl) (gN [2,6,11,13,93] rfl (zap rfl (fun hc93=>?_) (fun hc93=>?_))))))
          ·exfalso; rw [hb] at hc93; cases hc93
          ·simp only [nF] at hc93
           refine zaq (zaa (gM rfl (gQ (zaY rfl rfl) (gA rfl (gN [2,6,11,13] rfl ?_)))))
           exact za1 (k+1) ⟨rfl,rfl,rfl,rfl,trivial⟩ rfl ⟨by omega,by omega⟩ (by omega)
       ·
        refine za8 rfl (gS (gQ (zaJ en14 rfl (fun w hw=>zz3 w (rH hmx hw) (rH hcp hw) (rH hop hw))) (gA rfl (gN [6] rfl (zaw (zay (zaC rfl (zau rfl)) ?_))))))
        rfl
     ·
      refine zaq (gS (gQ (zaJ en14 rfl (fun w hw=>zz3 w (rH hmx hw) (rH hcp hw) (rH hop hw))) (gA rfl (gN [6] rfl (zaw (zay (zaC rfl (zau rfl)) ?_))))))
      rfl
   ·replace hg37:_=true:=hg37
    try rw [hg37]
    refine gF rfl rfl rfl (gF rfl rfl rfl (gQ (za5 rfl rfl rfl) (gN [1,2,6,7,8,9,41] rfl (zdg rfl (gS (gQ (zaJ en14 rfl (fun w hw=>zz3 w (rH hmx hw) (rH hcp hw) (rH hop hw))) (gA rfl (gN [1,2,6,7,8,9] rfl (zaw (zay (zaC rfl (zau rfl)) ?_))))))))))
    rfl
  ·replace hg30:_=true:=hg30
   try rw [hg30]
   refine gF rfl rfl rfl (gF rfl rfl rfl (gF rfl rfl rfl (gF rfl rfl rfl (gQ (za5 rfl rfl rfl) (gM rfl (gF rfl rfl rfl (gF rfl rfl rfl (gF rfl rfl rfl (gQ (za5 rfl rfl rfl) (gN [1,2,6,7,8,9,41] rfl (zdg rfl (gS (gQ (zaJ en14 rfl (fun w hw=>zz3 w (rH hmx hw) (rH hcp hw) (rH hop hw))) (gA rfl (gN [1,2,6,7,8,9] rfl (zaw (zay (zaC rfl (zau rfl)) ?_)))))))))))))))))
   rfl
 ·replace hg25:_=true:=hg25
  try rw [hg25]
  refine gF rfl rfl rfl (gF rfl rfl rfl (gQ (za5 rfl rfl rfl) (gM rfl (gF rfl rfl rfl (gF rfl rfl rfl (gF rfl rfl rfl (gF rfl rfl rfl (gF rfl rfl rfl (gQ (za5 rfl rfl rfl) (gM rfl (gF rfl rfl rfl (gF rfl rfl rfl (gF rfl rfl rfl (gQ (za5 rfl rfl rfl) (gN [1,2,6,7,8,9,41] rfl (zdg rfl (gS (gQ (zaJ en14 rfl (fun w hw=>zz3 w (rH hmx hw) (rH hcp hw) (rH hop hw))) (gA rfl (gN [1,2,6,7,8,9] rfl (zaw (zay (zaC rfl (zau rfl)) ?_))))))))))))))))))))))
  rfl
end Go.Proofs.YteepmmghanbllaaGreatDoor
namespace Go.K
open Go Go.Stn Go.ChangeShapes Go.WideShapes Go.ChangeAt Go.WideElems Go.RowKit
def I64 (n:Int):Prop:=-9223372036854775808≤n∧n≤9223372036854775807
theorem zp6 {α:Type} {Q:Nat→α→Prop}:∀ n,(∀ i,i < n→∃ x,Q i x)→∃ l:List α,l.length=n∧∀ i x,l[i]?=some x→Q i x
 | 0,_=>⟨[],rfl,fun i x h=>by simp at h⟩
 | n+1,h=>by
  obtain⟨l,hl,hq⟩:=zp6 n (fun i hi=>h i (by omega))
  obtain⟨x,hx⟩:=h n (by omega)
  refine⟨l++[x],by simp [hl],fun i y hy=>?_⟩
  rcases Nat.lt_or_ge i n with hi | hi
  ·rw [List.getElem?_append_left (by omega)] at hy; exact hq i y hy
  ·rw [List.getElem?_append_right (by omega),hl] at hy
   have:i=n:=by
    rcases Nat.lt_or_ge n i with g | g
    ·rw [List.getElem?_eq_none (by simp; omega)] at hy; cases hy
    ·omega
   subst this
   simp at hy
   subst hy; exact hx
section
variable {H:Type} {enc:TypeId×Value→H} {P:Program}
theorem zgK (hl:laidOutB P=true) {W W':World} {sp':Nat→Bool}:∀ (ts:List TypeId) (vs:List Value) (ds:List (DataW H)) (ps:List MemPlace),(∀ t∈ts,P.readableRec t=true∧t < P.types.size) →
  DataW.TrodAll enc P W 0 (fun _=>true) true ts vs ds ps→(∀ p∈ps,W.sameAt W' p)→(∀ p∈ps,sp' p.block=true)→DataW.TrodAll enc P W' 0 sp' true ts vs ds ps
 | [],[],[],ps,_,h,_,_=>h
 | t :: ts,v :: vs,d :: ds,ps,hr,⟨p,q,h1,h2,he⟩,hs,hsp=>by
  subst he
  exact⟨p,q,Trod_stays hl (hr t (mS ..)).1 (hr t (mS ..)).2 h1 (fun x hx=>hs x (List.mem_append_left _ hx)) (fun x hx=>hsp x (List.mem_append_left _ hx)),
   zgK hl ts vs ds q (fun x hx=>hr x (mM _ hx)) h2 (fun x hx=>hs x (List.mem_append_right _ hx)) (fun x hx=>hsp x (List.mem_append_right _ hx)),rfl⟩
 | [],[],_ :: _,_,_,h,_,_=>h.elim
 | [],_ :: _,_,_,_,h,_,_=>h.elim
 | _ :: _,[],_,_,_,h,_,_=>h.elim
 | _ :: _,_ :: _,[],_,_,h,_,_=>h.elim
theorem law_post {f:Func} {s:ChangeSpec} {apart fresh handsOn again:Bool} {W W':World} {args:Array Value} {ds:List (DataW H)} {before:List MemPlace} {tb:TypeId} (hl:laidOutB P=true)
  (hW:DataW.Whole enc P f.params.toList s.vars apart W args.toList ds [] before) (hvars:s.vars=[]) (hread:f.params.toList.all (fun t=>P.readableRec t&&decide (t < P.types.size))=true)
  (hfn:s.fn H (ds++[])={ results:=[.lit (.bool true)],args:=ds }) (hrt:f.resultTypes=#[tb]) (htb:P.underlying tb=some .bool) (hb:Ext W W'):s.post enc P f apart fresh handsOn again W args (.bool true) W':=by
 have hlt:∀ p∈before,p.block < W.heap.size:=fun p hp=>hW.lt p hp
 have hold:∀ p∈before,(fun b=>decide (b < W.heap.size)) p.block=true:=fun p hp=>by simpa using hlt p hp
 have hW0:=hW
 obtain⟨p,q,hA,hV,hpq,hz,hn⟩:=hW
 rw [hvars] at hV
 obtain⟨_,rfl⟩:=trodVars_none hV
 rw [List.append_nil] at hpq
 subst hpq
 have hr:∀ t∈f.params.toList,P.readableRec t=true∧t < P.types.size:=fun t ht=>by
  have:=List.all_eq_true.1 hread t ht
  simpa using this
 have hsame:∀ x∈before,W.sameAt W' x:=fun x hx=>by
  have hlx:=hlt x hx
  cases x with
  | cell b off=>exact hb.below.cell (p:=⟨b,off,none⟩) hlx
  | map b=>exact hb.block b hlx
 have hargs:∀ sp:Nat→Bool,(∀ p∈before,sp p.block=true)→DataW.TrodAll enc P W' 0 sp true f.params.toList args.toList ds before:=fun sp hsp=>zgK hl _ _ _ _ hr hA hsame hsp
 have hres:∀ (b:Nat) (sp:Nat→Bool) (hd:Bool),DataW.TrodAll enc P W' b sp hd f.resultTypes.toList ((Value.bool true).resultList f.resultTypes.size) [.lit (.bool true)] []:=fun b sp hd=>by
  rw [hrt]
  exact⟨[],[],⟨1,by simp [DataW.trod,Value.cells,htb]⟩,rfl,rfl⟩
 refine⟨ds,[],before,[],before,[],hW0,?_,?_,?_,World.keptBut_mono (fun p hp=>⟨hp,Or.inr (Or.inl hp)⟩) (hb.below.frame (·∈before)),fun _=>?_⟩
 ·rw [hfn]; exact hres _ _ _
 ·rw [hfn]; exact hargs _ hold
 ·rw [hfn,hvars]; rfl
 ·refine⟨fun j t r ht hrr=>?_,ds.cons (.lit (.bool true)),[],before,⟨before,[],?_,by rw [hvars]; rfl,by simp,?_,?_⟩,fun x hx _=>hx⟩
  ·rw [hrt] at ht hrr
   have h0:t=tb:=by
    rcases j with _ | j
    ·simpa using ht.symm
    ·simp at ht
   have h1:r=.bool true:=by
    rcases j with _ | j
    ·simpa [Value.resultList] using hrr.symm
    ·simp at ht
   subst h0; subst h1
   exact okWide_bool_mk htb true
  ·have h1:=trodAll_append (hargs (fun _=>true) (fun _ _=>rfl)) (hres 0 (fun _=>true) true)
   simpa using h1
  ·intro b off hp
   rw [hb.below.frozen (hlt _ hp)]
   exact hz b off (by simpa using hp)
  ·intro ha
   have:=hn ha
   simpa using this
end
end Go.K
namespace Go.Proofs.YteepmmghanbllaaGreatDoor
open Go Go.K Go.Stn Go.Pln Go.ChangeShapes Go.WideShapes Go.ChangeAt Go.RowKit
theorem own:ownKnob Tryz.prog.godebug=none:=by kernel_rfl
theorem laidOut:laidOutB Tryz.prog=true:=by kernel_rfl
abbrev laidR:List (String×DataW Unit):=Rows.fieldCrossesRow.laid
noncomputable def worldR (os:Os):World:=(World.doorLaid Tryz.prog 400 os).layVars Tryz.prog [("unicode/utf8.first",Go.Pinned.utf8First)]
theorem worldR_os (os:Os):(worldR os).os=os:=World.layVars_os _ _ _
theorem door_metR (os:Os) (args:Array Value):laidMetH Tryz.prog laidR ((worldR os).forCall (fun _ _=>0) ⟨#[],args,[]⟩).memory:=
 laidMetH_of_parts3 (fuel:=8) (laidMet_of_run' 8 (by kernel_rfl) (by kernel_rfl)) (by kernel_rfl) (by kernel_rfl)
section
variable {H:Type} {enc:TypeId×Value→H}
theorem returnsInHanded_of_change_and_shaped {a:Assume} {C:Checked} {os:Os} {f:FuncId} {fn:Func} {s:ChangeSpec} {conds:List PathCond} {apart fresh handsOn again:Bool} {X:World→Array Value→Prop}
  (hX:∀ (w w':World) (args:Array Value),w.heap=w'.heap→X w args→X w' args)
  (own:ownKnob C.prog.godebug=none) (started:os.Started) (noInit:C.prog.inits.idxOf? f=none) (hfn:C.prog.funcs[f]?=some fn)
  (witness:∃ (w:World) (tape:Tape) (i:Input),w.os=os∧(w.forCall tape i).Shaped C.prog∧i.vars=[]∧Input.okWide C.prog (w.forCall tape i) .any w.heap.size f i ∧
   ((s.pre enc C.prog fn conds apart (w.forCall tape i).memory i.args∧X (w.forCall tape i).memory i.args)∧sizedMet enc C.prog fn (OpenSpec.ofChange s) apart (w.forCall tape i).memory i.args)∧a.holds C.prog (lone (Frame.enter C.prog f i.args .normal) [] (w.forCall tape i)))
  (contract:∀ (W:World) (base:Nat) (args:Array Value) (ds gs:List (DataW H)) (before:List MemPlace),
   (∀ (j:Nat) t v,fn.params[j]?=some t→args[j]?=some v→Value.okWide C.prog W .any base t v) →
   DataW.Whole enc C.prog fn.params.toList s.vars apart W args.toList ds gs before →
   conds.all (PathCond.test C.prog ⟨fn.params.toList,ds,s.plain.varTypes C.prog,gs⟩)=true →
   (DataW.weightsEach C.prog (fn.params.toList++s.plain.varTypes C.prog) (ds++gs)).all (·≤reachBytes)=true→X W args →
   W.ShapedOpen C.prog →
   Calls C.prog f args W fun e W'=>∃ v,e=.returned v∧s.post enc C.prog fn apart fresh handsOn again W args v W') :
  ReturnsInHanded a C os f .any (fun w args=>(s.pre enc C.prog fn conds apart w args∧X w args)∧sizedMet enc C.prog fn (OpenSpec.ofChange s) apart w args) (s.post enc C.prog fn apart fresh handsOn again):=by
 refine returnsInHanded_of_calls own started noInit witness ?_
 intro w tape i _ hsh _ hok hpre _
 obtain⟨_,_,_,fn',hfn',_,_,_,_,hval⟩:=hok
 have e:fn' = fn:=Option.some.inj (hfn'.symm.trans hfn)
 subst e
 obtain⟨⟨⟨ds,gs,before,hw,hc⟩,hx⟩,hz⟩:=hpre
 have hw':=DataW.Whole.of_heap (w':=w.forCall tape i) (by rfl) hw
 refine(contract (w.forCall tape i) w.heap.size i.args ds gs before hval hw' hc (hz.weights hw) (hX _ _ _ (by rfl) hx) hsh).mono fun e W' ⟨v,he,hp⟩=>?_
 subst he
 exact ChangeSpec.post_blind hp
end
theorem zo3 {W:World} {b o:Nat} {v:Value} (h:W.cell? ⟨b,o,none⟩=some v):b < W.heap.size:=by
 rcases Nat.lt_or_ge b W.heap.size with g | g
 ·exact g
 ·exfalso
  simp [World.cell?,Array.getElem?_eq_none g] at h
theorem int_of_shape {W:World} (h:W.ShapedOpen Tryz.prog):Has W (IntV 2):=by
 obtain⟨m,hm⟩:=cell_of_shapedOpen_int (P:=Tryz.prog) (g:=2) (t:=3) (zero:=#[.int .i64 0]) (k:=.i64) h (oT (by kernel_rfl)) (by kernel_rfl) rfl (by kernel_rfl) (by kernel_rfl) Tryz.underlying3
 exact⟨(· = 2),fun k hk=>by rw [hk]; exact zo3 hm,fun _=>Iff.rfl,m,hm⟩
theorem zok {W:World} {l:List (String×DataW Unit)} (h:laidMetH Tryz.prog l W) {n:String} {d:DataW Unit} (hm:(n,d)∈l) (hd:d.handleName?.isNone=true):Lib.VarReads Tryz.prog W n d:=by
 unfold laidMetH at h
 split at h
 ·exact Lib.laidMet.reads h hm
 ·exact Lib.laidMet.reads h.1 (List.mem_filter.2 ⟨hm,hd⟩)
theorem zlF {t:TypeId} {k:Nat} {W:World} {fuel:Nat} {l:List Value} {L:List ByteArray} {p:List MemPlace} (ht:Tryz.prog.underlying t=some (.array k 9)) (hct:Tryz.prog.cellsOf t=k) (hk:k=L.length)
  (h:DataW.trod (fun _=>()) Tryz.prog W 0 (fun _=>true) false fuel t l=some (.agg (L.map fun s=>.lit (.string s.data.toList)),p)):l=L.map fun s=>.string s:=by
 obtain⟨xs,m,_,hx,hlen,hn,hel⟩:=DataW.trod_array ht h
 have c9:Tryz.prog.cellsOf 9=1:=by kernel_rfl
 rw [c9] at hel
 simp only [Prod.mk.injEq,DataW.agg.injEq] at hx
 have hc:l.length=k:=by rw [hlen,hct]
 refine List.ext_getElem? fun i=>?_
 rw [List.getElem?_map]
 rcases Nat.lt_or_ge i k with hi | hi
 ·have he:=hel i hi
  have hli:i < l.length:=by omega
  have hLi:i < L.length:=by omega
  have hxi:i < xs.length:=by omega
  rw [Nat.mul_one,List.drop_eq_getElem_cons hli,eG hxi] at he
  have he1:DataW.trod (fun _=>()) Tryz.prog W 0 (fun _=>true) false m 9 [l[i]]=some xs[i]:=he
  obtain⟨s,e0,ey,_⟩:=DataW.trod_string Tryz.underlying9 he1
  have h1:(L.map fun s=>(DataW.lit (Lit.string s.data.toList):DataW Unit))[i]?=(xs.map (·.1))[i]?:=by rw [hx.1]
  rw [List.getElem?_map,List.getElem?_map,eG hLi,eG hxi,ey] at h1
  simp only [Option.map_some,sI,DataW.lit.injEq,Lit.string.injEq] at h1
  have h2:L[i]=s:=by
   have:=Array.toList_inj.1 h1
   exact ByteArray.ext this
  simp only [List.cons.injEq,and_true] at e0
  rw [eG hli,eG hLi,e0,h2]
  rfl
 ·rw [List.getElem?_eq_none (by omega),List.getElem?_eq_none (by omega)]; rfl
theorem znT {W:World} {g:Nat} {nm:String} {t:TypeId} {k:Nat} {L:List ByteArray} {l:List (String×DataW Unit)} (h:laidMetH Tryz.prog l W) (hm:(nm,.agg (L.map fun s=>.lit (.string s.data.toList)))∈l)
  (hd:(DataW.agg (L.map fun s=>.lit (.string s.data.toList)):DataW Unit).handleName?.isNone=true)
  (hg:Tryz.prog.globalNamed nm=some g) (htg:(Tryz.prog.globals[g]?).map (·.type)=some t) (ht:Tryz.prog.underlying t=some (.array k 9)) (hct:Tryz.prog.cellsOf t=k) (hk:k=L.length) (h0:0 < k):Has W (zaW (some ⟨g,0,none⟩) 1 encS L):=by
 obtain⟨g',t',cs,fuel,p,hg',ht',hv,hd'⟩:=zok h hm hd
 obtain rfl:=Option.some.inj (hg.symm.trans hg')
 obtain rfl:=Option.some.inj (htg.symm.trans ht')
 have hcs:=zlF ht hct hk hd'
 have hc:=World.var?_cell hg hv
 have hcell:∀ i x,L[i]?=some x→W.cell? ⟨g,i,none⟩=some (.string x):=fun i x hi=>by
  rw [hc i]
  obtain⟨lc⟩:=cs
  have h1:lc=_:=hcs
  rw [h1]
  simp [hi]
 refine⟨(· = g),fun b hb=>?_,.inr ⟨g,0,rfl,fun _=>Iff.rfl,fun i x hi=>⟨?_,trivial⟩⟩⟩
 ·rw [hb]
  match L,hk with
  | x :: r,_=>exact zo3 (hcell 0 x rfl)
  | [],hk=>exact absurd hk (by simp; omega)
 ·rw [Nat.zero_add,Nat.mul_one]; exact hcell i x hi
theorem copes_of_laid {W:World} {l:List (String×DataW Unit)} (h:laidMetH Tryz.prog l W) (hm:("copestone/plan.copes",Rows.laid_copestone_plan_copes)∈l):Has W (zaW (some ⟨1,0,none⟩) 1 encS zeZ):=
 znT (t:=252) (k:=4) h hm (by kernel_rfl) (by kernel_rfl) (by kernel_rfl) Tryz.underlying252 (by kernel_rfl) rfl (by decide)
theorem opens_of_laid {W:World} {l:List (String×DataW Unit)} (h:laidMetH Tryz.prog l W) (hm:("copestone/plan.openings",Rows.laid_copestone_plan_openings)∈l):Has W (zaW (some ⟨0,0,none⟩) 1 encS opensW):=
 znT (t:=231) (k:=5) h hm (by kernel_rfl) (by kernel_rfl) (by kernel_rfl) Tryz.underlying231 (by kernel_rfl) rfl (by decide)
end Go.Proofs.YteepmmghanbllaaGreatDoor
namespace Go.Proofs.YteepmmghanbllaaGreatDoor
open Go Go.K Go.Stn Go.Pln Go.Fld Go.ChangeShapes Go.WideShapes Go.ChangeAt Go.WideElems Go.RowKit
section
variable {H:Type} {enc:TypeId×Value→H} {P:Program} {w:World} {base:Nat} {spare:Nat→Bool} {held:Bool}
theorem ziT {e:TypeId} {d:DataW H}:∀ {l:List (DataW H)},d∈l→∀ n∈d.weights P e,n∈DataW.weightsAll P e l
 | [],h,_,_=>by cases h
 | x :: r,h,n,hn=>by
  rw [DataW.weightsAll]
  rcases List.mem_cons.1 h with rfl | h
  ·exact List.mem_append_left _ hn
  ·exact List.mem_append_right _ (ziT h n hn)
def WOk (P:Program) (t:TypeId) (d:DataW H):Prop:=∀ n∈d.weights P t,n≤reachBytes
theorem wok_each:∀ {ts:List TypeId} {ds:List (DataW H)},(∀ n∈DataW.weightsEach P ts ds,n≤reachBytes)→∀ (i:Nat) t d,ts[i]?=some t→ds[i]?=some d→WOk P t d
 | [],_,_,i,t,d,h1,_=>by simp at h1
 | _ :: _,[],_,i,t,d,_,h2=>by simp at h2
 | t0 :: ts,d0 :: ds,h,i,t,d,h1,h2=>by
  rw [DataW.weightsEach] at h
  cases i with
  | zero=>
   simp only [List.getElem?_cons_zero,sI] at h1 h2
   subst h1; subst h2
   exact fun n hn=>h n (List.mem_append_left _ hn)
  | succ i=>
   simp only [List.getElem?_cons_succ] at h1 h2
   exact wok_each (fun n hn=>h n (List.mem_append_right _ hn)) i t d h1 h2
theorem zoH {t:TypeId} {fs:Array Field} (ht:P.underlying t=some (.struct fs)) {ys:List (DataW H×List MemPlace)} (h:WOk P t (.agg (ys.map (·.1)))) {i:Nat} {f:Field} {y:DataW H×List MemPlace} (hf:fs[i]?=some f) (hy:ys[i]?=some y):WOk P f.type y.1:=by
 have h':∀ n∈DataW.weightsEach P (fs.toList.map (·.type)) (ys.map (·.1)),n≤reachBytes:=fun n hn=>h n (by rw [DataW.weights,ht]; exact hn)
 refine wok_each h' i f.type y.1 ?_ ?_
 ·rw [List.getElem?_map,Array.getElem?_toList,hf]; rfl
 ·rw [List.getElem?_map,hy]; rfl
theorem zop {α:Type} {enc':α→List Value} {n:Nat} {Q:α→Prop} {t e:TypeId} {fuel:Nat} {cs:List Value} {x:DataW H×List MemPlace} (ht:P.underlying t=some (.slice e)) (hc:P.cellsOf e=n) (hn:Enc n enc')
  (hel:∀ (fuel:Nat) (cs:List Value) (y:DataW H×List MemPlace),DataW.trod enc P w base spare held fuel e cs=some y→WOk P e y.1→∃ z,Q z∧cs=enc' z)
  (h:DataW.trod enc P w base spare held fuel t cs=some x) (hx:WOk P t x.1) :
  ∃ (a:Option Addr) (L:List α) (cap:Nat),cs=[.slice a L.length cap]∧Has w (zaW a n enc' L)∧L.length≤cap∧(∀ z∈L,Q z)∧L.length*P.bytesOf e≤reachBytes:=by
 rcases Go.Deep.open_slice ht h with ⟨rfl,_⟩ | ⟨a,len,cap,m,k,D,Pl,rfl,hb,hl,hm,hmm,hxe,hi⟩
 ·exact⟨none,[],0,rfl,⟨fun _=>False,fun _ h=>h.elim,.inl rfl⟩,Nat.le_refl _,by simp,by simp⟩
 ·have hlm:len≤m:=by rw [hmm]; split <;> omega
  have hw:∀ v∈(len+(m - len))*P.bytesOf e :: (DataW.weightsAll P e ((List.range len).map D)++DataW.weightsAll P e ((List.range (m - len)).map fun j=>D (len+j))),v≤reachBytes:=fun v hv=>by
   refine hx v ?_
   rw [hxe,DataW.weights,ht]
   simpa using hv
  obtain⟨L,hll,hq⟩:=zp6 (Q:=fun i (z:α)=>Q z∧∀ j v,(enc' z)[j]?=some v→w.cell? (a.add (i*n+j))=some v) len (fun i hil=>by
   obtain⟨cs',hcs,ht'⟩:=hi i (by omega)
   obtain⟨z,hz,rfl⟩:=hel _ _ _ ht' (fun v hv=>hw v (mM _ (List.mem_append_left _ (ziT (List.mem_map.2 ⟨i,List.mem_range.2 hil,rfl⟩) v hv))))
   rw [hc] at hcs
   obtain⟨_,_,hat⟩:=World.cells?_some hcs
   refine⟨z,hz,fun j v hj=>?_⟩
   have hjn:j < n:=by
    have:=(List.getElem?_eq_some_iff.1 hj).1
    rw [hn.len] at this; exact this
   have h0:=hat j hjn
   rw [Go.Deep.add_add] at h0
   rw [h0]; exact hj)
  refine⟨some a,L,cap,by rw [hll],?_,by omega,fun z hz=>?_,?_⟩
  ·cases L with
   | nil=>exact⟨fun _=>False,fun _ h=>h.elim,.inl rfl⟩
   | cons z0 r=>
    obtain⟨v0,hv0⟩:∃ v0,(enc' z0)[0]?=some v0:=by
     have:0 < (enc' z0).length:=by rw [hn.len]; exact hn.pos
     exact⟨_,eG this⟩
    have hc0:=(hq 0 z0 rfl).2 0 _ hv0
    obtain⟨b,off,sp⟩:=a
    have hsp:sp=none:=by
     cases sp with
     | none=>rfl
     | some s=>
      exfalso
      simp only [World.cell?,Addr.add] at hc0
      split at hc0 <;> simp_all
    subst hsp
    have hbs:b < w.heap.size:=by
     rcases Nat.lt_or_ge b w.heap.size with h | h
     ·exact h
     ·exfalso
      rw [zb2] at hc0
      simp [World.cell?,Array.getElem?_eq_none h] at hc0
    refine⟨(· = b),fun k hk=>by rw [hk]; exact hbs,.inr ⟨b,off,rfl,fun _=>Iff.rfl,fun i z hz=>zfA _ _ fun j v hj=>?_⟩⟩
    have:=(hq i z hz).2 j v hj
    rw [zb2] at this
    rw [Nat.add_assoc]; exact this
  ·obtain⟨i,hi',rfl⟩:=List.getElem_of_mem hz
   exact(hq i _ (by simp [hi'])).1
  ·have h1:=hw _ (mS ..)
   rw [hll]
   refine Nat.le_trans (Nat.mul_le_mul_right _ ?_) h1
   omega
theorem zfs {t:TypeId} {fs:Array Field} {fuel:Nat} {cs:List Value} {x:DataW H×List MemPlace} (ht:P.underlying t=some (.struct fs)) (h:DataW.trod enc P w base spare held fuel t cs=some x) (hx:WOk P t x.1) (i:Nat) (f:Field) (hf:fs[i]?=some f) (ho:f.offset=i) (hc:P.cellsOf f.type=1) (hi:i < cs.length) :
  ∃ (v:Value) (y:DataW H×List MemPlace) (m:Nat),cs[i]?=some v∧DataW.trod enc P w base spare held m f.type [v]=some y∧WOk P f.type y.1:=by
 obtain⟨ys,m,_,hxe,_,hyl,hg⟩:=DataW.trod_struct ht h
 have h1:=hg i f hf
 have hfi:i < fs.size:=by
  rcases Nat.lt_or_ge i fs.size with g | g
  ·exact g
  ·rw [Array.getElem?_eq_none g] at hf; cases hf
 rw [ho,hc,List.drop_eq_getElem_cons hi,eG (by omega)] at h1
 have h2:DataW.trod enc P w base spare held m f.type [cs[i]]=some (ys[i]'(by omega)):=h1
 refine⟨cs[i],ys[i]'(by omega),m,eG hi,h2,?_⟩
 rw [hxe] at hx
 exact zoH ht hx hf (eG (by omega))
theorem zh1 {t:TypeId} {fs:Array Field} {fuel:Nat} {cs:List Value} {x:DataW H×List MemPlace} (ht:P.underlying t=some (.struct fs)) (h:DataW.trod enc P w base spare held fuel t cs=some x) (hx:WOk P t x.1) (i:Nat) (f:Field) (hf:fs[i]?=some f) (ho:f.offset=i) (hc:P.cellsOf f.type=1) (hi:i < cs.length)
  (hu:P.underlying f.type=some .string):∃ s:ByteArray,cs[i]?=some (.string s)∧Fits s.size:=by
 obtain⟨v,y,m,hv,hy,hw⟩:=zfs ht h hx i f hf ho hc hi
 obtain⟨s,e,ey,_⟩:=DataW.trod_string hu hy
 simp only [List.cons.injEq,and_true] at e
 subst e; subst ey
 refine⟨s,hv,?_⟩
 have:=hw s.size (by rw [DataW.weights]; simp)
 unfold reachBytes at this
 unfold Fits
 omega
theorem zbA {t:TypeId} {fs:Array Field} {fuel:Nat} {cs:List Value} {x:DataW H×List MemPlace} (ht:P.underlying t=some (.struct fs)) (h:DataW.trod enc P w base spare held fuel t cs=some x) (hx:WOk P t x.1) (i:Nat) (f:Field) (hf:fs[i]?=some f) (ho:f.offset=i) (hc:P.cellsOf f.type=1) (hi:i < cs.length)
  {k:IntKind} (hu:P.underlying f.type=some (.int k)):∃ n:Int,cs[i]?=some (.int k n)∧(Lit.int k n).wf=true:=by
 obtain⟨v,y,m,hv,hy,hw⟩:=zfs ht h hx i f hf ho hc hi
 obtain⟨n,e,ey,hwf⟩:=DataW.trod_int hu hy
 simp only [List.cons.injEq,and_true] at e
 subst e
 exact⟨n,hv,hwf⟩
theorem zfD {α:Type} {enc':α→List Value} {n:Nat} {Q:α→Prop} {t e:TypeId} {fs:Array Field} {fuel:Nat} {cs:List Value} {x:DataW H×List MemPlace} (ht:P.underlying t=some (.struct fs)) (h:DataW.trod enc P w base spare held fuel t cs=some x) (hx:WOk P t x.1) (i:Nat) (f:Field) (hf:fs[i]?=some f) (ho:f.offset=i) (hc:P.cellsOf f.type=1) (hi:i < cs.length)
  (hu:P.underlying f.type=some (.slice e)) (hce:P.cellsOf e=n) (hn:Enc n enc') (hel:∀ (fuel:Nat) (cs:List Value) (y:DataW H×List MemPlace),DataW.trod enc P w base spare held fuel e cs=some y→WOk P e y.1→∃ z,Q z∧cs=enc' z) :
  ∃ (a:Option Addr) (L:List α) (cap:Nat),cs[i]?=some (.slice a L.length cap)∧Has w (zaW a n enc' L)∧L.length≤cap∧(∀ z∈L,Q z)∧L.length*P.bytesOf e≤reachBytes:=by
 obtain⟨v,y,m,hv,hy,hw⟩:=zfs ht h hx i f hf ho hc hi
 obtain⟨a,L,cap,e1,h1,h2,h3,h4⟩:=zop hu hce hn hel hy hw
 simp only [List.cons.injEq,and_true] at e1
 subst e1
 exact⟨a,L,cap,hv,h1,h2,h3,h4⟩
end
section
variable {H:Type} {enc:TypeId×Value→H} {w:World} {base:Nat} {spare:Nat→Bool} {held:Bool}
theorem zfH {P:Program} {t:TypeId} {fs:Array Field} {fuel n:Nat} {cs:List Value} {x:DataW H×List MemPlace} (ht:P.underlying t=some (.struct fs)) (hc:P.cellsOf t=n) (h:DataW.trod enc P w base spare held fuel t cs=some x):cs.length=n:=by
 obtain⟨_,_,_,_,hl,_⟩:=DataW.trod_struct ht h
 rw [hl,hc]
theorem h3 {n:Nat} (h:n*Tryz.prog.bytesOf 3≤reachBytes):n≤17592186044416:=by
 rw [show Tryz.prog.bytesOf 3=8 by kernel_rfl] at h
 unfold reachBytes at h
 omega
theorem hopn {n:Nat} (h:n*Tryz.prog.bytesOf 138≤reachBytes):n≤3518437208883:=by
 rw [show Tryz.prog.bytesOf 138=40 by kernel_rfl] at h
 unfold reachBytes at h
 omega
theorem hsht {n:Nat} (h:n*Tryz.prog.bytesOf 135≤reachBytes):n≤764877654104:=by
 rw [show Tryz.prog.bytesOf 135=184 by kernel_rfl] at h
 unfold reachBytes at h
 omega
theorem hwll {n:Nat} (h:n*Tryz.prog.bytesOf 134≤reachBytes):n≤2199023255552:=by
 rw [show Tryz.prog.bytesOf 134=64 by kernel_rfl] at h
 unfold reachBytes at h
 omega
theorem hcel {n:Nat} (h:n*Tryz.prog.bytesOf 9≤reachBytes):n≤8796093022208:=by
 rw [show Tryz.prog.bytesOf 9=16 by kernel_rfl] at h
 unfold reachBytes at h
 omega
theorem hbdr {n:Nat} (h:n*Tryz.prog.bytesOf 100≤reachBytes):n≤2513169434915:=by
 rw [show Tryz.prog.bytesOf 100=56 by kernel_rfl] at h
 unfold reachBytes at h
 omega
theorem zrX {fuel:Nat} {cs:List Value} {y:DataW H×List MemPlace} (h:DataW.trod enc Tryz.prog w base spare held fuel 3 cs=some y) (_:WOk Tryz.prog 3 y.1):∃ n:Int,True∧cs=Go.Stn.encI n:=by
 obtain⟨n,e,_,_⟩:=DataW.trod_int Tryz.underlying3 h
 exact⟨n,trivial,e⟩
theorem zrY {fuel:Nat} {cs:List Value} {y:DataW H×List MemPlace} (h:DataW.trod enc Tryz.prog w base spare held fuel 138 cs=some y) (hx:WOk Tryz.prog 138 y.1) :
  ∃ o:Opn,Knd o∧cs=zba o:=by
 have hl:cs.length=5:=zfH Tryz.underlying138 (by kernel_rfl) h
 obtain⟨f0,e0,q0⟩:=zbA Tryz.underlying138 h hx 0 _ rfl rfl (by kernel_rfl) (by omega) Tryz.underlying5
 obtain⟨f1,e1,q1⟩:=zbA Tryz.underlying138 h hx 1 _ rfl rfl (by kernel_rfl) (by omega) Tryz.underlying3
 obtain⟨f2,e2,q2⟩:=zbA Tryz.underlying138 h hx 2 _ rfl rfl (by kernel_rfl) (by omega) Tryz.underlying3
 obtain⟨f3,e3,q3⟩:=zbA Tryz.underlying138 h hx 3 _ rfl rfl (by kernel_rfl) (by omega) Tryz.underlying3
 obtain⟨f4,e4,q4⟩:=zbA Tryz.underlying138 h hx 4 _ rfl rfl (by kernel_rfl) (by omega) Tryz.underlying3
 match cs,hl with
 | [c0,c1,c2,c3,c4],_=>
  simp only [List.getElem?_cons_zero,List.getElem?_cons_succ,sI] at e0 e1 e2 e3 e4
  subst e0; subst e1; subst e2; subst e3; subst e4
  exact⟨⟨f0,f1,f2,f3,f4⟩,bounds_u8 q0,rfl⟩
structure ShIn (w:World) (z:ShC):Prop where
 hts:Has w (Ints z.a z.s.heights)
 cap:z.s.heights.length≤z.cap
 fits:Fits z.s.name.size
 cope:0≤z.s.cope
 cope2:z.s.cope≤255
 num:z.s.heights.length≤17592186044416
structure WlIn (w:World) (z:WlC):Prop where
 ops:Has w (zaW z.a 5 zba z.s.opens)
 cap:z.s.opens.length≤z.cap
 knd:∀ o∈z.s.opens,Knd o
 fits:Fits z.s.name.size
 fits2:Fits z.s.sheet.size
 num:z.s.opens.length≤3518437208883
theorem zr0 {fuel:Nat} {cs:List Value} {y:DataW H×List MemPlace} (h:DataW.trod enc Tryz.prog w base spare held fuel 135 cs=some y) (hx:WOk Tryz.prog 135 y.1) :
  ∃ z:ShC,ShIn w z∧cs=zbH z:=by
 have hl:cs.length=20:=zfH Tryz.underlying135 (by kernel_rfl) h
 obtain⟨f0,e0,q0⟩:=zh1 Tryz.underlying135 h hx 0 _ rfl rfl (by kernel_rfl) (by omega) Tryz.underlying9
 obtain⟨f1,e1,q1⟩:=zbA Tryz.underlying135 h hx 1 _ rfl rfl (by kernel_rfl) (by omega) Tryz.underlying3
 obtain⟨f2,e2,q2⟩:=zbA Tryz.underlying135 h hx 2 _ rfl rfl (by kernel_rfl) (by omega) Tryz.underlying3
 obtain⟨f3,e3,q3⟩:=zbA Tryz.underlying135 h hx 3 _ rfl rfl (by kernel_rfl) (by omega) Tryz.underlying3
 obtain⟨f4,e4,q4⟩:=zbA Tryz.underlying135 h hx 4 _ rfl rfl (by kernel_rfl) (by omega) Tryz.underlying3
 obtain⟨a5,f5,k5,e5,q5,r5,s5,b5⟩:=zfD (Q:=fun _=>True) Tryz.underlying135 h hx 5 _ rfl rfl (by kernel_rfl) (by omega) Tryz.underlying45 (by kernel_rfl) Go.Stn.encI_ok (fun _ _ _ h1 h2=>zrX h1 h2)
 obtain⟨f6,e6,q6⟩:=zbA Tryz.underlying135 h hx 6 _ rfl rfl (by kernel_rfl) (by omega) Tryz.underlying3
 obtain⟨f7,e7,q7⟩:=zbA Tryz.underlying135 h hx 7 _ rfl rfl (by kernel_rfl) (by omega) Tryz.underlying3
 obtain⟨f8,e8,q8⟩:=zbA Tryz.underlying135 h hx 8 _ rfl rfl (by kernel_rfl) (by omega) Tryz.underlying3
 obtain⟨f9,e9,q9⟩:=zbA Tryz.underlying135 h hx 9 _ rfl rfl (by kernel_rfl) (by omega) Tryz.underlying3
 obtain⟨f10,e10,q10⟩:=zbA Tryz.underlying135 h hx 10 _ rfl rfl (by kernel_rfl) (by omega) Tryz.underlying3
 obtain⟨f11,e11,q11⟩:=zbA Tryz.underlying135 h hx 11 _ rfl rfl (by kernel_rfl) (by omega) Tryz.underlying3
 obtain⟨f12,e12,q12⟩:=zbA Tryz.underlying135 h hx 12 _ rfl rfl (by kernel_rfl) (by omega) Tryz.underlying3
 obtain⟨f13,e13,q13⟩:=zbA Tryz.underlying135 h hx 13 _ rfl rfl (by kernel_rfl) (by omega) Tryz.underlying5
 obtain⟨f14,e14,q14⟩:=zbA Tryz.underlying135 h hx 14 _ rfl rfl (by kernel_rfl) (by omega) Tryz.underlying3
 obtain⟨f15,e15,q15⟩:=zbA Tryz.underlying135 h hx 15 _ rfl rfl (by kernel_rfl) (by omega) Tryz.underlying3
 obtain⟨f16,e16,q16⟩:=zbA Tryz.underlying135 h hx 16 _ rfl rfl (by kernel_rfl) (by omega) Tryz.underlying3
 obtain⟨f17,e17,q17⟩:=zbA Tryz.underlying135 h hx 17 _ rfl rfl (by kernel_rfl) (by omega) Tryz.underlying3
 obtain⟨f18,e18,q18⟩:=zbA Tryz.underlying135 h hx 18 _ rfl rfl (by kernel_rfl) (by omega) Tryz.underlying3
 obtain⟨f19,e19,q19⟩:=zbA Tryz.underlying135 h hx 19 _ rfl rfl (by kernel_rfl) (by omega) Tryz.underlying3
 match cs,hl with
 | [c0,c1,c2,c3,c4,c5,c6,c7,c8,c9,c10,c11,c12,c13,c14,c15,c16,c17,c18,c19],_=>
  simp only [List.getElem?_cons_zero,List.getElem?_cons_succ,sI] at e0 e1 e2 e3 e4 e5 e6 e7 e8 e9 e10 e11 e12 e13 e14 e15 e16 e17 e18 e19
  subst e0; subst e1; subst e2; subst e3; subst e4; subst e5; subst e6; subst e7; subst e8; subst e9; subst e10; subst e11; subst e12; subst e13; subst e14; subst e15; subst e16; subst e17; subst e18; subst e19
  exact⟨⟨⟨f0,f1,f2,f3,f4,f5,f6,f7,f8,f9,f10,f11,f12,f13,f14,f15,f16,f17,f18,f19⟩,a5,k5⟩,⟨q5,r5,q0,(bounds_u8 q13).1,(bounds_u8 q13).2,h3 b5⟩,rfl⟩
theorem zr1 {fuel:Nat} {cs:List Value} {y:DataW H×List MemPlace} (h:DataW.trod enc Tryz.prog w base spare held fuel 134 cs=some y) (hx:WOk Tryz.prog 134 y.1) :
  ∃ z:WlC,WlIn w z∧cs=zbS z:=by
 have hl:cs.length=4:=zfH Tryz.underlying134 (by kernel_rfl) h
 obtain⟨f0,e0,q0⟩:=zh1 Tryz.underlying134 h hx 0 _ rfl rfl (by kernel_rfl) (by omega) Tryz.underlying9
 obtain⟨f1,e1,q1⟩:=zh1 Tryz.underlying134 h hx 1 _ rfl rfl (by kernel_rfl) (by omega) Tryz.underlying9
 obtain⟨f2,e2,q2⟩:=zbA Tryz.underlying134 h hx 2 _ rfl rfl (by kernel_rfl) (by omega) Tryz.underlying3
 obtain⟨a3,f3,k3,e3,q3,r3,s3,b3⟩:=zfD (Q:=Knd) Tryz.underlying134 h hx 3 _ rfl rfl (by kernel_rfl) (by omega) Tryz.underlying132 (by kernel_rfl) zyn (fun _ _ _ h1 h2=>zrY h1 h2)
 match cs,hl with
 | [c0,c1,c2,c3],_=>
  simp only [List.getElem?_cons_zero,List.getElem?_cons_succ,sI] at e0 e1 e2 e3
  subst e0; subst e1; subst e2; subst e3
  exact⟨⟨⟨f0,f1,f2,f3⟩,a3,k3⟩,⟨q3,r3,s3,q0,q1,hopn b3⟩,rfl⟩
structure zsA (w:World) (a:Option Addr) (cap:Nat) (S:List ShC) (b:Option Addr) (bcap:Nat) (V:List WlC):Prop where
 hl:Has w (zaW a 20 zbH S)
 hcS:S.length≤cap
 hS:∀ z∈S,ShIn w z
 hs:S.length≤764877654104
 hlw:Has w (zaW b 4 zbS V)
 hcV:V.length≤bcap
 hV:∀ z∈V,WlIn w z
 hsw:V.length≤2199023255552
theorem zrZ {fuel:Nat} {cs:List Value} {y:DataW H×List MemPlace} (h:DataW.trod enc Tryz.prog w base spare held fuel 25 cs=some y) (hx:WOk Tryz.prog 25 y.1) :
  ∃ (a:Option Addr) (cap:Nat) (S:List ShC) (b:Option Addr) (bcap:Nat) (V:List WlC),zsA w a cap S b bcap V∧cs=[.slice a S.length cap,.slice b V.length bcap]:=by
 have hl:cs.length=2:=zfH Tryz.underlying25 (by kernel_rfl) h
 obtain⟨a0,f0,k0,e0,q0,r0,s0,b0⟩:=zfD (Q:=ShIn w) Tryz.underlying25 h hx 0 _ rfl rfl (by kernel_rfl) (by omega) Tryz.underlying22 (by kernel_rfl) zbI (fun _ _ _ h1 h2=>zr0 h1 h2)
 obtain⟨a1,f1,k1,e1,q1,r1,s1,b1⟩:=zfD (Q:=WlIn w) Tryz.underlying25 h hx 1 _ rfl rfl (by kernel_rfl) (by omega) Tryz.underlying23 (by kernel_rfl) zbo (fun _ _ _ h1 h2=>zr1 h1 h2)
 match cs,hl with
 | [c0,c1],_=>
  simp only [List.getElem?_cons_zero,List.getElem?_cons_succ,sI] at e0 e1
  subst e0; subst e1
  exact⟨a0,k0,f0,a1,k1,f1,⟨q0,r0,s0,hsht b0,q1,r1,s1,hwll b1⟩,rfl⟩
theorem zE0 {fuel:Nat} {cs:List Value} {y:DataW H×List MemPlace} (h:DataW.trod enc Tryz.prog w base spare held fuel 9 cs=some y) (hx:WOk Tryz.prog 9 y.1):∃ s:ByteArray,Fits s.size∧cs=encS s:=by
 obtain⟨s,e,ey,_⟩:=DataW.trod_string Tryz.underlying9 h
 refine⟨s,?_,e⟩
 have:=hx s.size (by rw [ey,DataW.weights]; simp)
 unfold reachBytes at this
 unfold Fits
 omega
theorem zDc {t:TypeId} {fs:Array Field} {fuel:Nat} {cs:List Value} {x:DataW H×List MemPlace} (ht:Tryz.prog.underlying t=some (.struct fs)) (h:DataW.trod enc Tryz.prog w base spare held fuel t cs=some x) (hx:WOk Tryz.prog t x.1) (i:Nat) (f:Field) (hf:fs[i]?=some f) (ho:f.offset=i) (hc:Tryz.prog.cellsOf f.type=1) (hi:i < cs.length)
  (hu:Tryz.prog.underlying f.type=some .bool):∃ b:Bool,cs[i]?=some (.bool b):=by
 obtain⟨v,y,m,hv,hy,hw⟩:=zfs ht h hx i f hf ho hc hi
 obtain⟨b,e,_⟩:=DataW.trod_bool hu hy
 simp only [List.cons.injEq,and_true] at e
 subst e
 exact⟨b,hv⟩
theorem zEY {fuel:Nat} {cs:List Value} {y:DataW H×List MemPlace} (h:DataW.trod enc Tryz.prog w base spare held fuel 100 cs=some y) (hx:WOk Tryz.prog 100 y.1):∃ z:Bdr,True∧cs=zyr z:=by
 have hl:cs.length=6:=zfH Tryz.underlying100 (by kernel_rfl) h
 obtain⟨f0,e0,_⟩:=zbA Tryz.underlying100 h hx 0 _ rfl rfl (by kernel_rfl) (by omega) Tryz.underlying3
 obtain⟨f1,e1,_⟩:=zbA Tryz.underlying100 h hx 1 _ rfl rfl (by kernel_rfl) (by omega) Tryz.underlying3
 obtain⟨f2,e2,_⟩:=zh1 Tryz.underlying100 h hx 2 _ rfl rfl (by kernel_rfl) (by omega) Tryz.underlying9
 obtain⟨f3,e3,_⟩:=zbA Tryz.underlying100 h hx 3 _ rfl rfl (by kernel_rfl) (by omega) Tryz.underlying3
 obtain⟨f4,e4,_⟩:=zbA Tryz.underlying100 h hx 4 _ rfl rfl (by kernel_rfl) (by omega) Tryz.underlying3
 obtain⟨f5,e5⟩:=zDc Tryz.underlying100 h hx 5 _ rfl rfl (by kernel_rfl) (by omega) Tryz.underlying4
 match cs,hl with
 | [c0,c1,c2,c3,c4,c5],_=>
  simp only [List.getElem?_cons_zero,List.getElem?_cons_succ,sI] at e0 e1 e2 e3 e4 e5
  subst e0; subst e1; subst e2; subst e3; subst e4; subst e5
  exact⟨⟨f0,f1,f2,f3,f4,f5⟩,trivial,rfl⟩
structure zGO (w:World) (ca:Option Addr) (ccap:Nat) (cs:List ByteArray) (ba:Option Addr) (bcp:Nat) (bs:List Bdr):Prop where
 hc:Has w (zaW ca 1 encS cs)
 hcap:cs.length≤ccap
 hcf:∀ z∈cs,Fits z.size
 hcn:cs.length≤8796093022208
 hbd:Has w (zaW ba 6 zyr bs)
 hbn:bs.length≤2513169434915
theorem zEZ {fuel:Nat} {cs:List Value} {y:DataW H×List MemPlace} (h:DataW.trod enc Tryz.prog w base spare held fuel 29 cs=some y) (hx:WOk Tryz.prog 29 y.1) :
  ∃ (ca:Option Addr) (ccap:Nat) (C:List ByteArray) (ba:Option Addr) (bcp:Nat) (B:List Bdr),zGO w ca ccap C ba bcp B∧cs=[.slice ca C.length ccap,.slice ba B.length bcp]:=by
 have hl:cs.length=2:=zfH Tryz.underlying29 (by kernel_rfl) h
 obtain⟨a0,f0,k0,e0,q0,r0,s0,b0⟩:=zfD (Q:=fun z:ByteArray=>Fits z.size) Tryz.underlying29 h hx 0 _ rfl rfl (by kernel_rfl) (by omega) Tryz.underlying26 (by kernel_rfl) ztJ (fun _ _ _ h1 h2=>zE0 h1 h2)
 obtain⟨a1,f1,k1,e1,q1,r1,s1,b1⟩:=zfD (Q:=fun _=>True) Tryz.underlying29 h hx 1 _ rfl rfl (by kernel_rfl) (by omega) Tryz.underlying27 (by kernel_rfl) zyx (fun _ _ _ h1 h2=>zEY h1 h2)
 match cs,hl with
 | [c0,c1],_=>
  simp only [List.getElem?_cons_zero,List.getElem?_cons_succ,sI] at e0 e1
  subst e0; subst e1
  exact⟨a0,k0,f0,a1,k1,f1,⟨q0,r0,s0,hcel b0,q1,hbdr b1⟩,rfl⟩
theorem zEX {fuel:Nat} {cs:List Value} {y:DataW H×List MemPlace} (h:DataW.trod enc Tryz.prog w base spare held fuel 31 cs=some y) (hx:WOk Tryz.prog 31 y.1):∃ x:Anm,cs=zHc x:=by
 have hl:cs.length=5:=zfH Tryz.underlying31 (by kernel_rfl) h
 obtain⟨f0,e0,_⟩:=zbA Tryz.underlying31 h hx 0 _ rfl rfl (by kernel_rfl) (by omega) Tryz.underlying3
 obtain⟨f1,e1,_⟩:=zbA Tryz.underlying31 h hx 1 _ rfl rfl (by kernel_rfl) (by omega) Tryz.underlying3
 obtain⟨f2,e2,_⟩:=zbA Tryz.underlying31 h hx 2 _ rfl rfl (by kernel_rfl) (by omega) Tryz.underlying3
 obtain⟨f3,e3,_⟩:=zbA Tryz.underlying31 h hx 3 _ rfl rfl (by kernel_rfl) (by omega) Tryz.underlying3
 obtain⟨f4,e4,_⟩:=zbA Tryz.underlying31 h hx 4 _ rfl rfl (by kernel_rfl) (by omega) Tryz.underlying3
 match cs,hl with
 | [c0,c1,c2,c3,c4],_=>
  simp only [List.getElem?_cons_zero,List.getElem?_cons_succ,sI] at e0 e1 e2 e3 e4
  subst e0; subst e1; subst e2; subst e3; subst e4
  exact⟨⟨f0,f1,f2,f3,f4⟩,rfl⟩
theorem zzU {t:TypeId} {fs:Array Field} {fuel:Nat} {cs:List Value} {x:DataW H×List MemPlace} (ht:Tryz.prog.underlying t=some (.struct fs)) (h:DataW.trod enc Tryz.prog w base spare held fuel t cs=some x) (hx:WOk Tryz.prog t x.1) (i:Nat) (f:Field) (hf:fs[i]?=some f) :
  ∃ (y:DataW H×List MemPlace) (m:Nat),DataW.trod enc Tryz.prog w base spare held m f.type ((cs.drop f.offset).take (Tryz.prog.cellsOf f.type))=some y∧WOk Tryz.prog f.type y.1:=by
 obtain⟨ys,m,_,hxe,_,hyl,hg⟩:=DataW.trod_struct ht h
 have hfi:i < fs.size:=by
  rcases Nat.lt_or_ge i fs.size with g | g
  ·exact g
  ·rw [Array.getElem?_eq_none g] at hf; cases hf
 have h1:=hg i f hf
 rw [eG (by omega)] at h1
 refine⟨ys[i]'(by omega),m,h1,?_⟩
 rw [hxe] at hx
 exact zoH ht hx hf (eG (by omega))
theorem open_scene {r:Reach} {b0:Nat} {v:Value} {d:DataW H} {p:List MemPlace} (hv:Value.okWide Tryz.prog w r b0 33 v) (h:DataW.Trod enc Tryz.prog w base spare held 33 v d p) (hx:WOk Tryz.prog 33 d) :
  ∃ (a:Option Addr) (cap:Nat) (S:List ShC) (b:Option Addr) (bcap:Nat) (V:List WlC) (ca:Option Addr) (ccap:Nat) (cs:List ByteArray) (ba:Option Addr) (bcp:Nat) (bs:List Bdr) (x:Anm),zsA w a cap S b bcap V∧zGO w ca ccap cs ba bcp bs ∧
   v=.agg #[.slice a S.length cap,.slice b V.length bcap,.slice ca cs.length ccap,.slice ba bs.length bcp,.int .i64 x.wide,.int .i64 x.high,.int .i64 x.step,.int .i64 x.leap,.int .i64 x.reach]:=by
 obtain⟨ls0,rfl,hsz⟩:=okWide_struct Tryz.underlying33 hv
 obtain⟨fuel,hf⟩:=h
 obtain⟨ls⟩:=ls0
 have hl:ls.length=9:=zfH Tryz.underlying33 (by kernel_rfl) hf
 obtain⟨y0,m0,t0,w0⟩:=zzU (x:=(d,p)) Tryz.underlying33 hf hx 0 _ rfl
 obtain⟨y1,m1,t1,w1⟩:=zzU (x:=(d,p)) Tryz.underlying33 hf hx 1 _ rfl
 obtain⟨y2,m2,t2,w2⟩:=zzU (x:=(d,p)) Tryz.underlying33 hf hx 2 _ rfl
 obtain⟨a,cap,S,b,bcap,V,h1,e1⟩:=zrZ t0 w0
 obtain⟨ca,ccap,cs,ba,bcp,bs,h2,e2⟩:=zEZ t1 w1
 obtain⟨x,e3⟩:=zEX t2 w2
 refine⟨a,cap,S,b,bcap,V,ca,ccap,cs,ba,bcp,bs,x,h1,h2,?_⟩
 match ls,hl with
 | [c0,c1,c2,c3,c4,c5,c6,c7,c8],_=>
  have k1:Tryz.prog.cellsOf 25=2:=by kernel_rfl
  have k2:Tryz.prog.cellsOf 29=2:=by kernel_rfl
  have k3:Tryz.prog.cellsOf 31=5:=by kernel_rfl
  have e1:(([c0,c1,c2,c3,c4,c5,c6,c7,c8]:List Value).drop 0).take (Tryz.prog.cellsOf 25)=_:=e1
  have e2:(([c0,c1,c2,c3,c4,c5,c6,c7,c8]:List Value).drop 2).take (Tryz.prog.cellsOf 29)=_:=e2
  have e3:(([c0,c1,c2,c3,c4,c5,c6,c7,c8]:List Value).drop 4).take (Tryz.prog.cellsOf 31)=_:=e3
  rw [k1] at e1; rw [k2] at e2; rw [k3] at e3
  simp only [List.drop_zero,List.drop_succ_cons,List.take_succ_cons,List.take_zero,List.cons.injEq,and_true] at e1 e2 e3
  obtain⟨rfl,rfl⟩:=e1
  obtain⟨rfl,rfl⟩:=e2
  obtain⟨rfl,rfl,rfl,rfl,rfl⟩:=e3
  rfl
theorem open_i64 {r:Reach} {b0:Nat} {v:Value} {d:DataW H} {p:List MemPlace} (hv:Value.okWide Tryz.prog w r b0 3 v) (h:DataW.Trod enc Tryz.prog w base spare held 3 v d p):∃ n:Int,I64 n∧v=.int .i64 n:=by
 obtain⟨n,rfl⟩:=okWide_int Tryz.underlying3 hv
 obtain⟨fuel,hf⟩:=h
 obtain⟨n',e,_,hw⟩:=DataW.trod_int Tryz.underlying3 hf
 simp only [Value.cells,List.cons.injEq,Value.int.injEq,true_and,and_true] at e
 subst e
 exact⟨n,bounds_i64 hw,rfl⟩
end
theorem open_ints {H:Type} {enc:TypeId×Value→H} {w:World} {base:Nat} {spare:Nat→Bool} {held:Bool} {r:Reach} {b0:Nat} {v:Value} {d:DataW H} {p:List MemPlace} (hv:Value.okWide Tryz.prog w r b0 45 v) (h:DataW.Trod enc Tryz.prog w base spare held 45 v d p) (hx:WOk Tryz.prog 45 d) :
  ∃ (a:Option Addr) (cap:Nat) (l:List Int),Has w (Ints a l)∧v=.slice a l.length cap:=by
 obtain⟨a0,len,c0,rfl⟩:=okWide_slice Tryz.underlying45 hv
 obtain⟨fuel,hf⟩:=h
 obtain⟨a,l,cap,h1,h2,_⟩:=zop (Q:=fun _:Int=>True) (x:=(d,p)) Tryz.underlying45 (by kernel_rfl) Go.Stn.encI_ok (fun _ _ _ h1 h2=>zrX h1 h2) hf hx
 exact⟨a,cap,l,h2,by simpa [Value.cells] using h1⟩
end Go.Proofs.YteepmmghanbllaaGreatDoor
namespace Go.Proofs.YteepmmghanbllaaGreatDoor
open Go Go.K
theorem jf_maps:mapsRowed Tryz.prog=true:=by kernel_rfl
theorem jf_stops:(Tryz.prog.stops == [])=true:=by kernel_rfl
theorem jf_knobs:(Tryz.prog.stopKnobs == [])=true:=by kernel_rfl
theorem jf_keys:(Rows.fieldCrossesRow.plainKeys == Tryz.prog.plainKeys)=true:=by kernel_rfl
theorem jf_heard:Tryz.prog.stopsHeard=true:=by kernel_rfl
theorem jf_enter:Tryz.prog.mayEnter=true:=by kernel_rfl
theorem jf_final:(Rows.fieldCrossesRow.lifted == Tryz.prog.liftsFinal)=true:=by kernel_rfl
theorem jf_make:(Tryz.prog.make == some Rows.fieldCrossesRow.make)=true:=by kernel_rfl
theorem and_t {a b:Bool} (h1:a=true) (h2:b=true):(a&&b)=true:=by rw [h1,h2]; rfl
end Go.Proofs.YteepmmghanbllaaGreatDoor