/- What the proof of the root text leans on, part 8: the layer, plain facts and walks. No statement of the seat is proved in this text. -/
import Derived.Test.YteepmmghanbllaaGreatDoorFs7
set_option maxRecDepth 100000
set_option maxHeartbeats 32000000
namespace Go.Fld
open Go Go.K Go.Stn Go.Pln
def rchA (S:List ShC) (V:List WlC) (cs:List ByteArray) (bs:List Bdr) (x:Anm) (frm:Int):List Int:=if atE S V cs bs x [frm]=0 then zAs (zze (zyj S V bs x) (fun _=>true) frm) 40 else []
def smA (S:List ShC) (V:List WlC) (cs:List ByteArray) (bs:List Bdr) (x:Anm) (want:Bool):List (Int×Int):=if zym S V cs bs x=true then smN S V bs x want bs.length else []
def clA (S:List ShC) (V:List WlC) (cs:List ByteArray) (bs:List Bdr) (x:Anm) (frm to:Int):List Int:=if prtE S V cs bs x frm to=0 then clsB (zyj S V bs x) (clsA (zyj S V bs x) bs frm to).1 (clsA (zyj S V bs x) bs frm to).2 else []
def wkA (S:List ShC) (V:List WlC) (cs:List ByteArray) (bs:List Bdr) (x:Anm) (frm to:Int):List (List (Int×Int)):=if prtE S V cs bs x frm to=0 then(wksF (zyj S V bs x) frm to (clsB (zyj S V bs x) (clsA (zyj S V bs x) bs frm to).1 (clsA (zyj S V bs x) bs frm to).2).length (clsA (zyj S V bs x) bs frm to).1).map stpL else []
def smlF (S:List ShC) (V:List WlC) (cs:List ByteArray) (bs:List Bdr):Bool:=((zgI S V&&decide ((cs.length:Int)≤45))&&decide ((bs.length:Int)≤90))&&(decide ((bs.length:Int)≤20)||decide (80 < (bs.length:Int)))
theorem zEj {S:List ShC} {V:List WlC} {cs:List ByteArray} {bs:List Bdr} (h:smlF S V cs bs=true):zgI S V=true∧cs.length≤45∧bs.length≤90:=by
 unfold smlF at h
 simp only [aT,dT] at h
 exact⟨h.1.1.1,by omega,by omega⟩
theorem zDi {α:Type} [Inhabited α] {l:List α} {i:Int} (h0:0≤i) (h:i < (l.length:Int)):l.take i.toNat++[l.getD i.toNat default]=l.take (i+1).toNat:=by
 rw [show(i+1).toNat=i.toNat+1 from by omega,List.take_add_one,eG (by omega),gE,eG (by omega)]; rfl
end Go.Fld
namespace Go.K
open Go
section
variable {XS:Nat→Type} {c:Cx} {ds:List Deferred} {pre:List Oper} {N:Nat} {rd:List (Nat×Nat)} {ms:List Nat} {T0:List (Nat×Value)} {H:List Res} {K:List (E3 XS)→Prop} {i d:Nat} {r:List Oper} {S:List (E3 XS)} {op:Op} {ty:TypeId} {ps:String} {af:Array Edge}
theorem zIa {V V0:((i:Nat)→XS i)→Value} {j:Nat} {q b:Bool} (hb:lk3 S j=some V0) (hb2:∀ ρ,V0 ρ=if q=true then .bool b else undef) (hj:zaT ⟨some d,op,ty,ps,af,some (j,false)⟩ j=true)
  (h:(q&&!b)=true→∀ ρ:(i:Nat)→XS i,Y c ds (zeS ρ (rcf ms i) S S++H) (zdA ρ (zaT ⟨some d,op,ty,ps,af,some (j,false)⟩) S++zcl pre i T0) ⟨some d,op,ty,ps,af,some (j,false)⟩ (V ρ))
  (hl:∀ ρ ρ':(i:Nat)→XS i,zkB XS ms i ρ ρ'→V ρ=V ρ') (k:PH5 N rd c ds pre ms T0 H K (i+1) r (⟨i,some d,none,fun ρ=>if (q&&!b)=true then V ρ else undef,fun _=>Emp⟩ :: S)) :
  PH5 N rd c ds pre ms T0 H K i (⟨some d,op,ty,ps,af,some (j,false)⟩ :: r) S:=
 ⟨_,rfl,rfl,fun ρ ρ' hs=>⟨by show(if (q&&!b)=true then V ρ else undef)=(if (q&&!b)=true then V ρ' else undef); rw [hl ρ ρ' (fun j hj=>hs j (.inl hj))],rfl⟩,.inr ⟨V0,_,q&&!b,V,hb,hb2,hj,by cases q <;> cases b <;> simp [undef],rfl,rfl,fun _=>rfl,h⟩,k⟩
end
theorem zAe {X:Type} {V:X→Value} {A:X→Res} {w w':World} {e:Ending} {v:Value} (x:X) (h:Pure v w e w') (hv:v=V x) (hA:∀ w,(A x).A (fun _=>False) w):zcU V A w e w':=
 ⟨x,by rw [h.1,hv],h.2,fun _=>False,fun _ h=>h.elim,hA w'⟩
theorem zEg {R1 R2:Res} {w:World} (h1:R1.A (fun _=>False) w) (h2:R2.A (fun _=>False) w):(SepR [R1,R2]).A (fun _=>False) w:=
 ⟨fun _=>False,fun _=>False,fun _ h=>h,fun _ h=>h.elim,h1,fun _=>False,fun _=>False,fun _ h=>h,fun _ h=>h.elim,h2,trivial⟩
theorem zEh {R1 R2 R3:Res} {w:World} (h1:R1.A (fun _=>False) w) (h2:R2.A (fun _=>False) w) (h3:R3.A (fun _=>False) w):(SepR [R1,R2,R3]).A (fun _=>False) w:=
 ⟨fun _=>False,fun _=>False,fun _ h=>h,fun _ h=>h.elim,h1,fun _=>False,fun _=>False,fun _ h=>h,fun _ h=>h.elim,h2,fun _=>False,fun _=>False,fun _ h=>h,fun _ h=>h.elim,h3,trivial⟩
end Go.K
namespace Go.Proofs.YteepmmghanbllaaGreatDoor
open Go.K Go.Stn Go.Pln Go.Fld Go.RowKit
theorem zEk (a:Option Addr) (cap:Nat) (S:List ShC) (b:Option Addr) (bcap:Nat) (V:List WlC) (ca:Option Addr) (ccap:Nat) (cs:List ByteArray) (ba:Option Addr) (bcp:Nat) (bs:List Bdr) (x:Anm) (w:World) (hl:Has w (zaW a 20 zbH S)) (hs:zaP S.length) (hcS:S.length≤cap) (hlw:Has w (zaW b 4 zbS V)) (hsw:zaP V.length) (hsh:∀ z∈S,Has w (Ints z.a z.s.heights)) (hss:∀ z∈S,zaP z.s.heights.length) (hwo:∀ z∈V,Has w (zaW z.a 5 zba z.s.opens)) (hsv:∀ z∈V,zaP z.s.opens.length) (hcp:∀ z∈V,z.s.opens.length≤z.cap) (hkn:∀ z∈V,∀ o∈z.s.opens,Knd o) (hc:Has w (zaW ca 1 encS cs)) (hcs:zaP cs.length) (hcap:cs.length≤ccap) (hbd:Has w (zaW ba 6 zyr bs)) (hbs:zaP bs.length) (hno:¬ (zym S V cs bs x)=true) :
  Calls Tryz.prog 16 #[.agg #[.slice a S.length cap,.slice b V.length bcap],.agg #[.slice ca cs.length ccap,.slice ba bs.length bcp],.agg #[.int .i64 x.wide,.int .i64 x.high,.int .i64 x.step,.int .i64 x.leap,.int .i64 x.reach]] w (Pure (.tuple #[.slice none 0 0,.slice none 0 0,.int .i64 2]) w):=by
 refine zan (vs:=[_,_,_]) Tryz.func16 rfl rfl (bL rfl) (gS (zaG rfl rfl (za3 (vs:=[_,_]) rfl rfl) fun b3=>(zaG rfl rfl (za3 (vs:=[_,_]) rfl rfl) fun b4=>(zaG rfl rfl (za3 (vs:=[_,_,_,_,_]) rfl rfl) fun b5=>(gA rfl (gA rfl (gA rfl (gN [3,4,5,6,7,8] rfl (gS (gQ (zat 2 tf37 rfl rfl (vs:=[_,_]) rfl rfl) (gQ (zat 1 tf40 rfl rfl (vs:=[_,_]) rfl rfl) (gQ (zat 0 tf41 rfl rfl (vs:=[_,_,_,_,_]) rfl rfl) (zaG rfl rfl (zbm en49 rfl (fun w hw=>zz8 _ _ S _ _ V _ _ cs _ _ bs x w (rH hl hw) hs hcS (rH hlw hw) hsw (fun z hz=>(rH (hsh z hz) hw)) hss (fun z hz=>(rH (hwo z hz) hw)) hsv hcp hkn (rH hc hw) hcs hcap (rH hbd hw) hbs hno)) fun p21=>(gM rfl (gQ (zaB rfl rfl) (gQ (zaB rfl rfl) (gA rfl (gA rfl (gN [3,4,6,7,8,9] rfl (zac (gS (gM rfl (gQ (zcr rfl rfl) (gN [3,4,6,7,8,9,25] rfl (zdg rfl (gS (gM rfl (gA rfl (gA rfl (gA rfl (gN [3,4,6,7,8,9] rfl (zaw (zay (zdh rfl (zau rfl) (zau rfl) (zau rfl)) ?_)))))))))))))))))))))))))))))))))
 rfl
theorem zEG (a:Option Addr) (cap:Nat) (S:List ShC) (b:Option Addr) (bcap:Nat) (V:List WlC) (ca:Option Addr) (ccap:Nat) (cs:List ByteArray) (ba:Option Addr) (bcp:Nat) (bs:List Bdr) (x:Anm) (frm to:Int) (w:World) (hl:Has w (zaW a 20 zbH S)) (hs:zaP S.length) (hcS:S.length≤cap) (hlw:Has w (zaW b 4 zbS V)) (hsw:zaP V.length) (hsh:∀ z∈S,Has w (Ints z.a z.s.heights)) (hss:∀ z∈S,zaP z.s.heights.length) (hwo:∀ z∈V,Has w (zaW z.a 5 zba z.s.opens)) (hsv:∀ z∈V,zaP z.s.opens.length) (hcp:∀ z∈V,z.s.opens.length≤z.cap) (hkn:∀ z∈V,∀ o∈z.s.opens,Knd o) (hc:Has w (zaW ca 1 encS cs)) (hcs:zaP cs.length) (hcap:cs.length≤ccap) (hbd:Has w (zaW ba 6 zyr bs)) (hbs:zaP bs.length) (hpr:¬ prtE S V cs bs x frm to=0) :
  Calls Tryz.prog 23 #[.agg #[.slice a S.length cap,.slice b V.length bcap],.agg #[.slice ca cs.length ccap,.slice ba bs.length bcp],.agg #[.int .i64 x.wide,.int .i64 x.high,.int .i64 x.step,.int .i64 x.leap,.int .i64 x.reach],.int .i64 frm,.int .i64 to] w (Pure (.tuple #[.slice none 0 0,.slice none 0 0,.int .i64 (prtE S V cs bs x frm to)]) w):=by
 refine zan (vs:=[_,_,_,_,_]) Tryz.func23 rfl rfl (bL rfl) (gS (zaG rfl rfl (za3 (vs:=[_,_]) rfl rfl) fun b5=>(zaG rfl rfl (za3 (vs:=[_,_]) rfl rfl) fun b6=>(zaG rfl rfl (za3 (vs:=[_,_,_,_,_]) rfl rfl) fun b7=>(zaG rfl rfl (za3 (vs:=[_]) rfl rfl) fun b9=>(gA rfl (gA rfl (gA rfl (gN [3,5,6,7,9,10,11,12] rfl (gS (gQ (zat 3 tf37 rfl rfl (vs:=[_,_]) rfl rfl) (gQ (zat 2 tf40 rfl rfl (vs:=[_,_]) rfl rfl) (gQ (zat 1 tf41 rfl rfl (vs:=[_,_,_,_,_]) rfl rfl) (gM rfl (gQ (zah 0 tf3 rfl rfl rfl) (gQ (zaJ en54 rfl (fun w hw=>zD7 _ _ S _ _ V _ _ cs _ _ bs x frm to w (rH hl hw) hs hcS (rH hlw hw) hsw (fun z hz=>(rH (hsh z hz) hw)) hss (fun z hz=>(rH (hwo z hz) hw)) hsv hcp hkn (rH hc hw) hcs hcap (rH hbd hw) hbs hpr)) (gM rfl (gQ (zaB rfl rfl) (gQ (zaB rfl rfl) (zaG rfl rfl (zaL zzI (zs:=[_]) rfl) fun b13=>(zaA 0 zzI rfl rfl (vs:=[_]) rfl rfl rfl rfl rfl (gA rfl (gN [3,6,9,10,11,12,13] rfl (zac (gS (gM rfl (gQ (zcr rfl rfl) (gN [3,6,9,10,11,12,13,36] rfl (zap rfl (fun hc36=>?_) (fun hc36=>?_))))))))))))))))))))))))))))))
 ·simp only [nT,dF] at hc36
  refine gS (gM rfl (gA rfl (gA rfl (gA rfl (gN [3,6,9,10,11,12,13] rfl (zaw (zay (zdh rfl (zau rfl) (zau rfl) (zau rfl)) ?_)))))))
  rfl
 ·exfalso; exact hpr (by simpa using hc36)
theorem zE5 (a:Option Addr) (cap:Nat) (S:List ShC) (b:Option Addr) (bcap:Nat) (V:List WlC) (ca:Option Addr) (ccap:Nat) (cs:List ByteArray) (ba:Option Addr) (bcp:Nat) (bs:List Bdr) (x:Anm) (frm:Int) (w:World) (hl:Has w (zaW a 20 zbH S)) (hs:zaP S.length) (hcS:S.length≤cap) (hlw:Has w (zaW b 4 zbS V)) (hsw:zaP V.length) (hsh:∀ z∈S,Has w (Ints z.a z.s.heights)) (hss:∀ z∈S,zaP z.s.heights.length) (hwo:∀ z∈V,Has w (zaW z.a 5 zba z.s.opens)) (hsv:∀ z∈V,zaP z.s.opens.length) (hcp:∀ z∈V,z.s.opens.length≤z.cap) (hkn:∀ z∈V,∀ o∈z.s.opens,Knd o) (hc:Has w (zaW ca 1 encS cs)) (hcs:zaP cs.length) (hcap:cs.length≤ccap) (hbd:Has w (zaW ba 6 zyr bs)) (hbs:zaP bs.length) :
  Calls Tryz.prog 15 #[.agg #[.slice a S.length cap,.slice b V.length bcap],.agg #[.slice ca cs.length ccap,.slice ba bs.length bcp],.agg #[.int .i64 x.wide,.int .i64 x.high,.int .i64 x.step,.int .i64 x.leap,.int .i64 x.reach],.int .i64 frm] w (zcU (fun z:Option Addr×Nat=>.tuple #[.slice z.1 (rchA S V cs bs x frm).length z.2,.int .i64 (atE S V cs bs x [frm])]) (fun z=>Row z.1 1 z.2 3 Go.Stn.encI (rchA S V cs bs x frm)) w):=by
 by_cases hat:atE S V cs bs x [frm]=0
 ·have h:=zDf a cap S b bcap V ca ccap cs ba bcp bs x frm w hl hs hcS hlw hsw hsh hss hwo hsv hcp hkn hc hcs hcap hbd hbs hat
  rw [show(rchA S V cs bs x frm)=_ from if_pos hat,hat]; exact h
 ·have h:=zDe a cap S b bcap V ca ccap cs ba bcp bs x frm w hl hs hcS hlw hsw hsh hss hwo hsv hcp hkn hc hcs hcap hbd hbs hat
  have e:(rchA S V cs bs x frm)=[]:=if_neg hat
  exact h.mono fun e' w' h=>zAe (none,0) h (by rw [e]; rfl) (fun _=>by rw [e]; exact zAR)
theorem zAz (a:Option Addr) (cap:Nat) (S:List ShC) (b:Option Addr) (bcap:Nat) (V:List WlC) (ca:Option Addr) (ccap:Nat) (cs:List ByteArray) (ba:Option Addr) (bcp:Nat) (bs:List Bdr) (x:Anm) (i:Int) (back:Bool) (w:World) (hl:Has w (zaW a 20 zbH S)) (hs:zaP S.length) (hcS:S.length≤cap) (hlw:Has w (zaW b 4 zbS V)) (hsw:zaP V.length) (hsh:∀ z∈S,Has w (Ints z.a z.s.heights)) (hss:∀ z∈S,zaP z.s.heights.length) (hwo:∀ z∈V,Has w (zaW z.a 5 zba z.s.opens)) (hsv:∀ z∈V,zaP z.s.opens.length) (hcp:∀ z∈V,z.s.opens.length≤z.cap) (hkn:∀ z∈V,∀ o∈z.s.opens,Knd o) (hc:Has w (zaW ca 1 encS cs)) (hcs:zaP cs.length) (hcap:cs.length≤ccap) (hbd:Has w (zaW ba 6 zyr bs)) (hbs:zaP bs.length) :
  Calls Tryz.prog 24 #[.agg #[.slice a S.length cap,.slice b V.length bcap],.agg #[.slice ca cs.length ccap,.slice ba bs.length bcp],.agg #[.int .i64 x.wide,.int .i64 x.high,.int .i64 x.step,.int .i64 x.leap,.int .i64 x.reach],.int .i64 i,.bool back] w (Pure (.tuple #[.int .i64 (zyv S V cs bs x i back).way,.int .i64 (zyv S V cs bs x i back).eff,.int .i64 (zyv S V cs bs x i back).err]) w):=by
 by_cases hok:(zym S V cs bs x)=true
 ·exact zC6 a cap S b bcap V ca ccap cs ba bcp bs x i back w hl hs hcS hlw hsw hsh hss hwo hsv hcp hkn hc hcs hcap hbd hbs hok
 ·exact zC5 a cap S b bcap V ca ccap cs ba bcp bs x i back w hl hs hcS hlw hsw hsh hss hwo hsv hcp hkn hc hcs hcap hbd hbs hok
theorem zE7 (a:Option Addr) (cap:Nat) (S:List ShC) (b:Option Addr) (bcap:Nat) (V:List WlC) (ca:Option Addr) (ccap:Nat) (cs:List ByteArray) (ba:Option Addr) (bcp:Nat) (bs:List Bdr) (x:Anm) (w:World) (hl:Has w (zaW a 20 zbH S)) (hs:zaP S.length) (hcS:S.length≤cap) (hlw:Has w (zaW b 4 zbS V)) (hsw:zaP V.length) (hsh:∀ z∈S,Has w (Ints z.a z.s.heights)) (hss:∀ z∈S,zaP z.s.heights.length) (hwo:∀ z∈V,Has w (zaW z.a 5 zba z.s.opens)) (hsv:∀ z∈V,zaP z.s.opens.length) (hcp:∀ z∈V,z.s.opens.length≤z.cap) (hkn:∀ z∈V,∀ o∈z.s.opens,Knd o) (hc:Has w (zaW ca 1 encS cs)) (hcs:zaP cs.length) (hcap:cs.length≤ccap) (hbd:Has w (zaW ba 6 zyr bs)) (hbs:zaP bs.length) :
  Calls Tryz.prog 16 #[.agg #[.slice a S.length cap,.slice b V.length bcap],.agg #[.slice ca cs.length ccap,.slice ba bs.length bcp],.agg #[.int .i64 x.wide,.int .i64 x.high,.int .i64 x.step,.int .i64 x.leap,.int .i64 x.reach]] w (zcU (fun z:(Option Addr×Nat)×(Option Addr×Nat)=>.tuple #[.slice z.1.1 (smA S V cs bs x true).length z.1.2,.slice z.2.1 (smA S V cs bs x false).length z.2.2,.int .i64 (zBP S V cs bs x)]) (fun z=>SepR [Row z.1.1 2 z.1.2 130 zyQ (smA S V cs bs x true),Row z.2.1 2 z.2.2 130 zyQ (smA S V cs bs x false)]) w):=by
 by_cases hok:(zym S V cs bs x)=true
 ·have h:=zEl a cap S b bcap V ca ccap cs ba bcp bs x w hl hs hcS hlw hsw hsh hss hwo hsv hcp hkn hc hcs hcap hbd hbs hok
  rw [show(smA S V cs bs x true)=_ from if_pos hok,show(smA S V cs bs x false)=_ from if_pos hok,zBA hok]; exact h
 ·have h:=zEk a cap S b bcap V ca ccap cs ba bcp bs x w hl hs hcS hlw hsw hsh hss hwo hsv hcp hkn hc hcs hcap hbd hbs hok
  have e1:(smA S V cs bs x true)=[]:=if_neg hok
  have e2:(smA S V cs bs x false)=[]:=if_neg hok
  rw [zBz hok,e1,e2]
  exact h.mono fun e' w' h=>zAe ((none,0),(none,0)) h rfl (fun _=>zEg zAR zAR)
theorem zEF (a:Option Addr) (cap:Nat) (S:List ShC) (b:Option Addr) (bcap:Nat) (V:List WlC) (ca:Option Addr) (ccap:Nat) (cs:List ByteArray) (ba:Option Addr) (bcp:Nat) (bs:List Bdr) (x:Anm) (frm to:Int) (w:World) (hl:Has w (zaW a 20 zbH S)) (hs:zaP S.length) (hcS:S.length≤cap) (hlw:Has w (zaW b 4 zbS V)) (hsw:zaP V.length) (hsh:∀ z∈S,Has w (Ints z.a z.s.heights)) (hss:∀ z∈S,zaP z.s.heights.length) (hwo:∀ z∈V,Has w (zaW z.a 5 zba z.s.opens)) (hsv:∀ z∈V,zaP z.s.opens.length) (hcp:∀ z∈V,z.s.opens.length≤z.cap) (hkn:∀ z∈V,∀ o∈z.s.opens,Knd o) (hc:Has w (zaW ca 1 encS cs)) (hcs:zaP cs.length) (hcap:cs.length≤ccap) (hbd:Has w (zaW ba 6 zyr bs)) (hbs:zaP bs.length) :
  Calls Tryz.prog 23 #[.agg #[.slice a S.length cap,.slice b V.length bcap],.agg #[.slice ca cs.length ccap,.slice ba bs.length bcp],.agg #[.int .i64 x.wide,.int .i64 x.high,.int .i64 x.step,.int .i64 x.leap,.int .i64 x.reach],.int .i64 frm,.int .i64 to] w (zcU (fun z:(Option Addr×Nat)×(Option Addr×Nat)×List WkR=>.tuple #[.slice z.1.1 (clA S V cs bs x frm to).length z.1.2,.slice z.2.1.1 z.2.2.length z.2.1.2,.int .i64 (prtE S V cs bs x frm to)]) (fun z=>zDo (z.2.2.map (·.1)=(wkA S V cs bs x frm to)) (SepR [Row z.1.1 1 z.1.2 3 Go.Stn.encI (clA S V cs bs x frm to),Row z.2.1.1 1 z.2.1.2 78 zBI z.2.2,Go.K.Rows rowK z.2.2])) w):=by
 by_cases hpr:prtE S V cs bs x frm to=0
 ·have h:=zEH a cap S b bcap V ca ccap cs ba bcp bs x frm to w hl hs hcS hlw hsw hsh hss hwo hsv hcp hkn hc hcs hcap hbd hbs hpr
  rw [show(clA S V cs bs x frm to)=_ from if_pos hpr,show(wkA S V cs bs x frm to)=_ from if_pos hpr,hpr]; exact h
 ·have h:=zEG a cap S b bcap V ca ccap cs ba bcp bs x frm to w hl hs hcS hlw hsw hsh hss hwo hsv hcp hkn hc hcs hcap hbd hbs hpr
  have e1:(clA S V cs bs x frm to)=[]:=if_neg hpr
  have e2:(wkA S V cs bs x frm to)=[]:=if_neg hpr
  rw [e1,e2]
  exact h.mono fun e' w' h=>zAe ((none,0),(none,0),[]) h rfl (fun _=>⟨rfl,zEh zAR zAR zsb⟩)
theorem zCR:FO Tryz.prog 33 0 0:=fK
theorem zz0:FO Tryz.prog 33 1 2:=fK
theorem zAL:FO Tryz.prog 33 2 4:=fK
theorem af26:AF Tryz.prog 26 9 1 16 [.string ⟨#[]⟩]:=⟨Tryz.underlying26,by kernel_rfl,rfl⟩
theorem af38:AF Tryz.prog 38 64 6 56 [.int .i64 0,.int .i64 0,.string ⟨#[]⟩,.int .i64 0,.int .i64 0,.bool false]:=⟨Tryz.underlying38,by kernel_rfl,rfl⟩
theorem en42:En Tryz.prog 42:=eK Tryz.func42
theorem en43:En Tryz.prog 43:=eK Tryz.func43
theorem en51:En Tryz.prog 51:=eK Tryz.func51
theorem zFL (x0a:Option Addr) (x0n x0c:Nat) (w:World):(Instr.build 40 #[(0,.slice x0a x0n x0c)]).run Tryz.prog w=.ok (.agg #[.slice x0a x0n x0c,.slice none 0 0]) w:=by kernel_rfl
theorem zyE (x0 x1 x2 x3 x4:Int) (w:World):(Instr.build 41 #[(0,.int .i64 x0),(1,.int .i64 x1),(2,.int .i64 x2),(3,.int .i64 x3),(4,.int .i64 x4)]).run Tryz.prog w=.ok (.agg #[.int .i64 x0,.int .i64 x1,.int .i64 x2,.int .i64 x3,.int .i64 x4]) w:=by kernel_rfl
theorem zzo (x0 x1:Int) (x2:ByteArray) (x3 x4:Int) (x5:Bool) (w:World):(Instr.build 64 #[(0,.int .i64 x0),(1,.int .i64 x1),(2,.string x2),(3,.int .i64 x3),(4,.int .i64 x4),(5,.bool x5)]).run Tryz.prog w=.ok (.agg #[.int .i64 x0,.int .i64 x1,.string x2,.int .i64 x3,.int .i64 x4,.bool x5]) w:=by kernel_rfl
theorem zsE (x0_0 x0_1:Int) (x0_2:ByteArray) (x0_3 x0_4:Int) (x0_5:Bool) (w:World):(Instr.buildSlice 38 1 #[(0,.agg #[.int .i64 x0_0,.int .i64 x0_1,.string x0_2,.int .i64 x0_3,.int .i64 x0_4,.bool x0_5])]).run Tryz.prog w=.ok (.slice (some ⟨w.heap.size,0,none⟩) 1 1) (w.alloc (.cells (([⟨x0_0,x0_1,x0_2,x0_3,x0_4,x0_5⟩]:List (Bdr)).flatMap zyr).toArray 64)):=by kernel_rfl
theorem zG1 (a:Option Addr) (cap:Nat) (S:List ShC) (b:Option Addr) (bcap:Nat) (V:List WlC) (ca:Option Addr) (ccap:Nat) (cs:List ByteArray) (ba:Option Addr) (bcp:Nat) (bs:List Bdr) (x:Anm) (w:World) (hl:Has w (zaW a 20 zbH S)) (hs:S.length≤764877654104) (hlw:Has w (zaW b 4 zbS V)) (hsw:V.length≤2199023255552) (hsh:∀ z∈S,Has w (Ints z.a z.s.heights)) (hss:∀ z∈S,z.s.heights.length≤17592186044416) (hwo:∀ z∈V,Has w (zaW z.a 5 zba z.s.opens)) (hsv:∀ z∈V,z.s.opens.length≤3518437208883) (hfS:∀ z∈S,Fits z.s.name.size) (hc:Has w (zaW ca 1 encS cs)) (hcn:cs.length≤8796093022208) (hbd:Has w (zaW ba 6 zyr bs)) (hbn:bs.length≤2513169434915) :
  Calls Tryz.prog 13 #[.agg #[.slice a S.length cap,.slice b V.length bcap,.slice ca cs.length ccap,.slice ba bs.length bcp,.int .i64 x.wide,.int .i64 x.high,.int .i64 x.step,.int .i64 x.leap,.int .i64 x.reach]] w (zcU (fun z:((Option Addr×Nat×List ShC)×(Option Addr×Nat×List WlC))×(Option Addr×Nat)×(Option Addr×Nat)=>.tuple #[.agg #[.slice z.1.1.1 z.1.1.2.2.length z.1.1.2.1,.slice z.1.2.1 z.1.2.2.2.length z.1.2.2.1],.agg #[.slice z.2.1.1 cs.length z.2.1.2,.slice z.2.2.1 bs.length z.2.2.2],.agg #[.int .i64 x.wide,.int .i64 x.high,.int .i64 x.step,.int .i64 x.leap,.int .i64 x.reach],.bool (smlF S V cs bs)]) (fun z=>SepR [PlR yP z.1 ⟨S.map (·.s),V.map (·.s)⟩,Row z.2.1.1 1 z.2.1.2 9 encS cs,Row z.2.2.1 6 z.2.2.2 64 zyr bs]) w):=by
 refine zan (vs:=[_]) Tryz.func13 rfl rfl (bL rfl) (gS (zaG rfl rfl (za3 (vs:=[_,_,_,_,_,_,_,_,_]) rfl rfl) fun b1=>(zaG rfl rfl (zaL tf37 (zs:=[_,_]) rfl) fun b2=>(zaG rfl rfl (zaL tf40 (zs:=[_,_]) rfl) fun b3=>(zaG rfl rfl (zaL tf41 (zs:=[_,_,_,_,_]) rfl) fun b4=>(gA rfl (gN [1,2,3,4,5] rfl (gS (gQ (zab zz0 rfl) (gQ (zab zAp rfl) (gQ (zah 3 tf26 rfl rfl rfl) (zaG rfl rfl (zoJ (m:=cs) af26 ztJ rfl rfl (fun _=>rH hc) (by omega) (by unfold maxLen; omega)) fun z13=>(gQ (zaI rfl (zFL _ _ _)) (zaG rfl rfl (zaL tf40 (zs:=[_,_]) rfl) fun b6=>(zaA 0 tf40 rfl rfl (vs:=[_,_]) rfl rfl rfl rfl rfl (gN [1,2,3,4,5,6] rfl (zac (gS (gA rfl (gN [1,2,3,4,5,6,7] rfl (zas (zbB 64 zyr 6 ?_))))))))))))))))))))))
 refine zbf (X:=Int×Option Addr×Nat×List Bdr) (fun⟨i,ra,rc,N⟩=>[(1,.pointer (some ⟨b1,0,none⟩)),(2,.pointer (some ⟨b2,0,none⟩)),(3,.pointer (some ⟨b3,0,none⟩)),(4,.pointer (some ⟨b4,0,none⟩)),(5,.bool false),(6,.pointer (some ⟨b6,0,none⟩)),(7,.int .i64 i)]) (fun⟨i,ra,rc,N⟩=>[Row ra 6 rc 64 zyr N,Box b6 [.slice z13.1 cs.length z13.2,.slice ra N.length rc] 40,Row z13.1 1 z13.2 9 encS cs,Box b4 [.int .i64 0,.int .i64 0,.int .i64 0,.int .i64 0,.int .i64 0] 41,Box b3 [.slice none 0 0,.slice none 0 0] 40,Box b2 [.slice none 0 0,.slice none 0 0] 37,Box b1 [.slice a S.length cap,.slice b V.length bcap,.slice ca cs.length ccap,.slice ba bs.length bcp,.int .i64 x.wide,.int .i64 x.high,.int .i64 x.step,.int .i64 x.leap,.int .i64 x.reach] 33]) (fun⟨i,ra,rc,N⟩=>(0≤i∧i≤bs.length∧N=bs.take i.toNat)) (fun⟨i,ra,rc,N⟩=>(bs.length - i).toNat) (0,none,0,[]) (sB rfl) rfl ?_ ?_
 ·exact⟨by omega,by omega,rfl⟩
 ·rintro ⟨i,ra,rc,N⟩ hI
  obtain⟨g0,g1,g2⟩:=hI
  have hnl:N.length≤i.toNat:=by rw [g2,List.length_take]; omega
  refine zac (gS (gM rfl (gQ (zab zz0 rfl) (gQ (zab zzL rfl) (gQ (zah 6 tf27 rfl rfl rfl) (gQ (zaV (Tryz.underlying27) rfl) (gQ (zbw rfl rfl) (gN [1,2,3,4,5,6,7,20] rfl (zap rfl (fun hc20=>?_) (fun hc20=>?_))))))))))
  ·have hc20:=oT hc20
   refine zaq (zac (zas (gS (gQ (zab zz0 rfl) (gQ (zab zzL rfl) (gQ (zah 6 tf27 rfl rfl rfl) (gM rfl (gQ (zaE se27 rfl rfl (fun _=>rH hbd)) (gQ (zbv (vs:=[_,_,_,_,_,_]) zAU rfl (fun _=>rH hbd) (by omega) (by omega) rfl) (zaG rfl rfl (zaL zAU (zs:=[_,_,_,_,_,_]) rfl) fun b8=>(zaA 0 zAU rfl rfl (vs:=[_,_,_,_,_,_]) rfl rfl rfl rfl rfl (gN [1,2,3,4,5,6,7,8] rfl (zaa (gQ (zab zz1 rfl) (gQ (zah 2 tf38 rfl rfl rfl) (gQ (zab zCa rfl) (gQ (zah 0 tf3 rfl rfl rfl) (gQ (zab zCb rfl) (gQ (zah 0 tf3 rfl rfl rfl) (gQ (zab zCc rfl) (gQ (zah 0 tf9 rfl rfl rfl) (gQ (zab zCd rfl) (gQ (zah 0 tf3 rfl rfl rfl) (gQ (zab zCe rfl) (gQ (zah 0 tf3 rfl rfl rfl) (gQ (zab zCf rfl) (gQ (zah 0 tf4 rfl rfl rfl) (gQ (zaI rfl (zzo _ _ _ _ _ _)) (zaG rfl rfl (zaD rfl (zsE _ _ _ _ _ _) zyx rfl) fun b44=>?_)))))))))))))))))))))))))))))
   refine zb4 (m:=[(bs.getD (i).toNat default)]) 2 af38 zyx rfl rfl rfl rfl (fun _ hw=>(zam zyx (hw.has (p:=0) rfl))) (by first | omega | (simp only [lC,lN]; omega)) (by first | (unfold maxLen; omega) | (simp only [lC,lN,maxLen]; omega)) fun a45 c45=>(gQ (zab zz1 rfl) (zaA 3 tf38 rfl rfl (vs:=[_]) rfl rfl rfl rfl rfl (gN [1,2,3,4,5,6,7] rfl (zaa (gM rfl (gQ (zaY rfl rfl) (gA rfl (gN [1,2,3,4,5,6,7] rfl (zaK 0 rfl (zaK 0 rfl ?_))))))))))
   exact za1 (i+1,_,_,_) (sB rfl) rfl ⟨by omega,by omega,by rw [g2,zDi g0 hc20]⟩ (by simp only []; omega)
  ·have hc20:=oD hc20
   have hN:N=bs:=by rw [g2,List.take_of_length_le (by omega)]
   refine za8 rfl (gS (gQ (zab zAL rfl) (gQ (zab zeo rfl) (gQ (zah 6 tf3 rfl rfl rfl) (gQ (zab zAL rfl) (gQ (zab zd7 rfl) (gQ (zah 6 tf3 rfl rfl rfl) (gQ (zab zAL rfl) (gQ (zab zCQ rfl) (gQ (zah 6 tf3 rfl rfl rfl) (gQ (zab zAL rfl) (gQ (zab zA6 rfl) (gQ (zah 6 tf3 rfl rfl rfl) (gQ (zab zAL rfl) (gQ (zab zA7 rfl) (gQ (zah 6 tf3 rfl rfl rfl) (gQ (zaI rfl (zyE _ _ _ _ _)) (zaG rfl rfl (zaL tf41 (zs:=[_,_,_,_,_]) rfl) fun b9=>(zaA 0 tf41 rfl rfl (vs:=[_,_,_,_,_]) rfl rfl rfl rfl rfl (gN [1,2,3,4,5,6,9] rfl (zac (zao 4 rfl (zao 5 rfl (zao 6 rfl (zCs [_,_,_] (ch [(2,((Option Addr×Nat×List ShC)×(Option Addr×Nat×List WlC)))]) 1000 40 [0,1,3,0,0,0,32,103,231,487,999,2023,4071,8167,16359,32743,65511,131047,262119,524263,1048551,2097127,4194279,8388583,16777191,33554407,67108839,134217703,268435431,536870887,1073741799,2147483623,4294967271,8589934567,17179869159,34359738343,536870887,69256347631,206695301119,549755813887] [] rfl (fun _=>mixed) (by kernel_rfl) (zjK _ ⟨inferInstance,trivial⟩) ?_)))))))))))))))))))))))))
   refine pY (fun ρ=>zab zCR rfl) (pY (fun ρ=>zat (b:=b1) (cs:=[.slice a S.length cap,.slice b V.length bcap,.slice ca cs.length ccap,.slice ba bs.length bcp,.int .i64 x.wide,.int .i64 x.high,.int .i64 x.step,.int .i64 x.leap,.int .i64 x.reach]) (e:=33) 4 tf25 rfl (by kernel_rfl) (vs:=[_,_]) rfl rfl) (zFy (fun ρ=>zbm en42 rfl (fun w hw=>zue _ _ S _ _ V w (rH hl hw) (rH hlw hw) (fun z hz=>(rH (hsh z hz) hw)) hss (fun z hz=>(rH (hwo z hz) hw)) hsv hs hsw)) (fun ρ ρ' h=>⟨by rfl,by rfl⟩) (pY (fun ρ=>zat (b:=b6) (cs:=[.slice z13.1 cs.length z13.2,.slice ra N.length rc]) (e:=40) 2 tf40 rfl (by kernel_rfl) (vs:=[_,_]) rfl rfl) (pY (fun ρ=>zat (b:=b9) (cs:=[.int .i64 x.wide,.int .i64 x.high,.int .i64 x.step,.int .i64 x.leap,.int .i64 x.reach]) (e:=41) 0 tf41 rfl (by kernel_rfl) (vs:=[_,_,_,_,_]) rfl rfl) (pY (fun ρ=>zab zCR rfl) (pY (fun ρ=>zat (b:=b1) (cs:=[.slice a S.length cap,.slice b V.length bcap,.slice ca cs.length ccap,.slice ba bs.length bcp,.int .i64 x.wide,.int .i64 x.high,.int .i64 x.step,.int .i64 x.leap,.int .i64 x.reach]) (e:=33) 4 tf25 rfl (by kernel_rfl) (vs:=[_,_]) rfl rfl) (pY (fun ρ=>zaJ en43 rfl (fun w hw=>zuI _ _ S _ _ V w (rH hl hw) (by unfold zaP; omega) (rH hlw hw) (by omega) hfS)) (pY (fun ρ=>zaf rfl) ?_))))))))
   refine zH9 rfl (fun _=>rfl) rfl (fun hgd ρ=>by(try rw [hgd]); exact(zab zz0 rfl)) (fun ρ ρ' h=>by rfl) (zH9 rfl (fun _=>rfl) rfl (fun hgd ρ=>by(try rw [hgd]); exact(zab zAp rfl)) (fun ρ ρ' h=>by rfl) (zH9 rfl (fun _=>rfl) rfl (fun hgd ρ=>by(try rw [hgd]); exact(zah (b:=b1) (cs:=[.slice a S.length cap,.slice b V.length bcap,.slice ca cs.length ccap,.slice ba bs.length bcp,.int .i64 x.wide,.int .i64 x.high,.int .i64 x.step,.int .i64 x.leap,.int .i64 x.reach]) (e:=33) 5 tf26 rfl (by kernel_rfl) rfl)) (fun ρ ρ' h=>by rfl) (zH9 rfl (fun _=>rfl) rfl (fun hgd ρ=>by(try rw [hgd]); exact(zaV (Tryz.underlying26) rfl)) (fun ρ ρ' h=>by rfl) (zH9 rfl (fun _=>rfl) rfl (fun hgd ρ=>by(try rw [hgd]); exact(zeT rfl rfl)) (fun ρ ρ' h=>by rfl) (pY (fun ρ=>zaX rfl rfl rfl) (pY (fun ρ=>zaf rfl) (zH9 rfl (fun _=>rfl) rfl (fun hgd ρ=>by(try rw [hgd]); exact(zab zz0 rfl)) (fun ρ ρ' h=>by rfl) (zH9 rfl (fun _=>rfl) rfl (fun hgd ρ=>by(try rw [hgd]); exact(zab zzL rfl)) (fun ρ ρ' h=>by rfl) ?_))))))))
   refine zH9 rfl (fun _=>rfl) rfl (fun hgd ρ=>by(try rw [hgd]); exact(zah (b:=b1) (cs:=[.slice a S.length cap,.slice b V.length bcap,.slice ca cs.length ccap,.slice ba bs.length bcp,.int .i64 x.wide,.int .i64 x.high,.int .i64 x.step,.int .i64 x.leap,.int .i64 x.reach]) (e:=33) 5 tf27 rfl (by kernel_rfl) rfl)) (fun ρ ρ' h=>by rfl) (zH9 rfl (fun _=>rfl) rfl (fun hgd ρ=>by(try rw [hgd]); exact(zaV (Tryz.underlying27) rfl)) (fun ρ ρ' h=>by rfl) (zH9 rfl (fun _=>rfl) rfl (fun hgd ρ=>by(try rw [hgd]); exact(zeT rfl rfl)) (fun ρ ρ' h=>by rfl) (pY (fun ρ=>zaX rfl rfl rfl) (pY (fun ρ=>zaf rfl) (zH9 rfl (fun _=>rfl) rfl (fun hgd ρ=>by(try rw [hgd]); exact(zab zz0 rfl)) (fun ρ ρ' h=>by rfl) (zH9 rfl (fun _=>rfl) rfl (fun hgd ρ=>by(try rw [hgd]); exact(zab zzL rfl)) (fun ρ ρ' h=>by rfl) (zH9 rfl (fun _=>rfl) rfl (fun hgd ρ=>by(try rw [hgd]); exact(zah (b:=b1) (cs:=[.slice a S.length cap,.slice b V.length bcap,.slice ca cs.length ccap,.slice ba bs.length bcp,.int .i64 x.wide,.int .i64 x.high,.int .i64 x.step,.int .i64 x.leap,.int .i64 x.reach]) (e:=33) 5 tf27 rfl (by kernel_rfl) rfl)) (fun ρ ρ' h=>by rfl) (zH9 rfl (fun _=>rfl) rfl (fun hgd ρ=>by(try rw [hgd]); exact(zaV (Tryz.underlying27) rfl)) (fun ρ ρ' h=>by rfl) ?_))))))))
   refine zH9 rfl (fun _=>rfl) rfl (fun hgd ρ=>by(try rw [hgd]); exact(zeT rfl rfl)) (fun ρ ρ' h=>by rfl) (zH9 rfl (fun _=>rfl) rfl (fun hgd ρ=>by(try rw [hgd]); exact(zaf rfl)) (fun ρ ρ' h=>by rfl) (zIa rfl (fun _=>rfl) rfl (fun hgd ρ=>by(try rw [hgd]); exact(zab zz0 rfl)) (fun ρ ρ' h=>by rfl) (zIa rfl (fun _=>rfl) rfl (fun hgd ρ=>by(try rw [hgd]); exact(zab zzL rfl)) (fun ρ ρ' h=>by rfl) (zIa rfl (fun _=>rfl) rfl (fun hgd ρ=>by(try rw [hgd]); exact(zah (b:=b1) (cs:=[.slice a S.length cap,.slice b V.length bcap,.slice ca cs.length ccap,.slice ba bs.length bcp,.int .i64 x.wide,.int .i64 x.high,.int .i64 x.step,.int .i64 x.leap,.int .i64 x.reach]) (e:=33) 5 tf27 rfl (by kernel_rfl) rfl)) (fun ρ ρ' h=>by rfl) (zIa rfl (fun _=>rfl) rfl (fun hgd ρ=>by(try rw [hgd]); exact(zaV (Tryz.underlying27) rfl)) (fun ρ ρ' h=>by rfl) (zIa rfl (fun _=>rfl) rfl (fun hgd ρ=>by(try rw [hgd]); exact(zc6 rfl rfl)) (fun ρ ρ' h=>by rfl) (zH9 rfl (fun _=>rfl) rfl (fun hgd ρ=>by(try rw [hgd]); exact(zaR rfl rfl rfl)) (fun ρ ρ' h=>by rfl) (pY (fun ρ=>zaX rfl rfl rfl) ?_))))))))
   refine zBT (R:=fun ρ=>Box b2 [.slice none 0 0,.slice none 0 0] 37) (A:=fun ρ=>Box b2 [.slice (ρ 2).1.1 (ρ 2).1.2.2.length (ρ 2).1.2.1,.slice (ρ 2).2.1 (ρ 2).2.2.2.length (ρ 2).2.2.1] 37) 1000 rfl (by kernel_rfl) (by kernel_rfl) (fun _=>by kernel_rfl) (fun ρ=>zex tf37 rfl rfl (vs:=[_,_]) rfl rfl rfl rfl rfl) (fun ρ ρ' h=>by(first | rfl | (simp only [h 2 rfl]; done) | (simp only [h 2 rfl]; rfl))) (zBT (R:=fun ρ=>Box b3 [.slice none 0 0,.slice none 0 0] 40) (A:=fun ρ=>Box b3 [.slice z13.1 cs.length z13.2,.slice ra N.length rc] 40) 1001 rfl (by kernel_rfl) (by kernel_rfl) (fun _=>by kernel_rfl) (fun ρ=>zex tf40 rfl rfl (vs:=[_,_]) rfl rfl rfl rfl rfl) (fun ρ ρ' h=>by rfl) (zBT (R:=fun ρ=>Box b4 [.int .i64 0,.int .i64 0,.int .i64 0,.int .i64 0,.int .i64 0] 41) (A:=fun ρ=>Box b4 [.int .i64 x.wide,.int .i64 x.high,.int .i64 x.step,.int .i64 x.leap,.int .i64 x.reach] 41) 1002 rfl (by kernel_rfl) (by kernel_rfl) (fun _=>by kernel_rfl) (fun ρ=>zex tf41 rfl rfl (vs:=[_,_,_,_,_]) rfl rfl rfl rfl rfl) (fun ρ ρ' h=>by rfl) (pY (fun ρ=>zad rfl) ?_)))
   refine fun ρ=>zag (zf4 (X:=((Option Addr×Nat×List ShC)×(Option Addr×Nat×List WlC))) (ρ 2) (fun p65=>[(2,.pointer (some ⟨b2,0,none⟩)),(3,.pointer (some ⟨b3,0,none⟩)),(4,.pointer (some ⟨b4,0,none⟩)),(5,.bool ((((zgI S V)&&(decide ((cs.length:Int)≤45)))&&(decide ((bs.length:Int)≤90)))&&((decide ((bs.length:Int)≤20))||(decide (80 < (bs.length:Int))))))]) (fun p65=>[PlR yP p65 ⟨S.map (·.s),V.map (·.s)⟩,Box b2 [.slice p65.1.1 p65.1.2.2.length p65.1.2.1,.slice p65.2.1 p65.2.2.2.length p65.2.2.1] 37,Box b3 [.slice z13.1 cs.length z13.2,.slice ra N.length rc] 40,Box b4 [.int .i64 x.wide,.int .i64 x.high,.int .i64 x.step,.int .i64 x.leap,.int .i64 x.reach] 41,Box b9 [.int .i64 x.wide,.int .i64 x.high,.int .i64 x.step,.int .i64 x.leap,.int .i64 x.reach] 41,Row ra 6 rc 64 zyr N,Box b6 [.slice z13.1 cs.length z13.2,.slice ra N.length rc] 40,Row z13.1 1 z13.2 9 encS cs,Box b1 [.slice a S.length cap,.slice b V.length bcap,.slice ca cs.length ccap,.slice ba bs.length bcp,.int .i64 x.wide,.int .i64 x.high,.int .i64 x.step,.int .i64 x.leap,.int .i64 x.reach] 33]) ⟨rfl,rfl,rfl,rfl,trivial⟩ rfl ?_)
   rintro p65
   refine zaw (zao 5 rfl (zao 7 rfl (zao 2 rfl (zbT 3 (zbd (p65,(z13.1,z13.2),(ra,rc)) 0 (zGD rfl (zbU (i:=1) (vs:=[_,_]) tf37 rfl rfl rfl rfl) (zbU (i:=2) (vs:=[_,_]) tf40 rfl rfl rfl rfl) (zbU (i:=3) (vs:=[_,_,_,_,_]) tf41 rfl rfl rfl rfl) (zau rfl)) ?_ (by rw [hN]; rfl))))))
   rw [hN]; rfl
theorem zEO (a:Option Addr) (cap:Nat) (S:List ShC) (b:Option Addr) (bcap:Nat) (V:List WlC) (ca:Option Addr) (ccap:Nat) (cs:List ByteArray) (ba:Option Addr) (bcp:Nat) (bs:List Bdr) (x:Anm) (w:World) (hl:Has w (zaW a 20 zbH S)) (hs:zaP S.length) (hcS:S.length≤cap) (hlw:Has w (zaW b 4 zbS V)) (hsw:zaP V.length) (hsh:∀ z∈S,Has w (Ints z.a z.s.heights)) (hss:∀ z∈S,zaP z.s.heights.length) (hwo:∀ z∈V,Has w (zaW z.a 5 zba z.s.opens)) (hsv:∀ z∈V,zaP z.s.opens.length) (hcp:∀ z∈V,z.s.opens.length≤z.cap) (hkn:∀ z∈V,∀ o∈z.s.opens,Knd o) (hc:Has w (zaW ca 1 encS cs)) (hcs:zaP cs.length) (hcap:cs.length≤ccap) (hbd:Has w (zaW ba 6 zyr bs)) (hbs:zaP bs.length) (hfS:∀ z∈S,Fits z.s.name.size) (hfV:∀ z∈V,Fits z.s.name.size) (hco:∀ z∈S,0≤z.s.cope) (hcf:∀ z∈cs,Fits z.size) :
  Calls Tryz.prog 17 #[.agg #[.slice a S.length cap,.slice b V.length bcap,.slice ca cs.length ccap,.slice ba bs.length bcp,.int .i64 x.wide,.int .i64 x.high,.int .i64 x.step,.int .i64 x.leap,.int .i64 x.reach]] w (Pure (.bool (zym S V cs bs x)) w):=by
 refine zan (vs:=[_]) Tryz.func17 rfl rfl (bL rfl) (gS (zaG rfl rfl (za3 (vs:=[_,_,_,_,_,_,_,_,_]) rfl rfl) fun b1=>(gA rfl (gN [1,2] rfl (gS (gQ (zab zCR rfl) (gQ (zat 0 tf25 rfl rfl (vs:=[_,_]) rfl rfl) (gQ (zab zz0 rfl) (gQ (zat 0 tf29 rfl rfl (vs:=[_,_]) rfl rfl) (gQ (zab zAL rfl) (gQ (zat 0 tf31 rfl rfl (vs:=[_,_,_,_,_]) rfl rfl) (gQ (zaJ en51 rfl (fun w hw=>zEd _ _ S _ _ V _ _ cs _ _ bs x w (rH hl hw) hs hcS (rH hlw hw) hsw (fun z hz=>(rH (hsh z hz) hw)) hss (fun z hz=>(rH (hwo z hz) hw)) hsv hcp hkn (rH hc hw) hcs hcap (rH hbd hw) hbs hfS hfV hco hcf)) (gA rfl (gN [2] rfl (zaw (zay (zaC rfl (zau rfl)) ?_))))))))))))))))
 rfl
end Go.Proofs.YteepmmghanbllaaGreatDoor
namespace Go.Proofs.YteepmmghanbllaaGreatDoor
open Go Go.K Go.Stn Go.Pln Go.RowKit Go.Txt
theorem zkC {c:UInt8} {l:List UInt8} (h:l.all (fun x=>!(x == c))=true):∀ x∈l,x≠c:=fun x hx=>by
 have:=List.all_eq_true.1 h x hx
 simpa using this
theorem zbk {c:UInt8} {L:List UInt8} (k n:Nat) (h0:((L.drop k).take n).all (fun x=>!(x == c))=true) (h1:(L.drop k)[n]?=some c):cutL c (L.drop k)=(L.drop k).take n :: cutL c (L.drop (k+n+1)):=by
 obtain⟨h,h2⟩:=List.getElem?_eq_some_iff.1 h1
 have e:L.drop k=(L.drop k).take n++c :: L.drop (k+n+1):=by
  rw [←h2,show k+n+1=k+(n+1) from rfl,←List.drop_drop,←List.drop_eq_getElem_cons h,List.take_append_drop]
 conv=>lhs; rw [e]
 exact zhx (zkC h0)
theorem zui {W:List ByteArray} (h:0 < W.length):zdp W=.ok (W.getD 0 default,W.drop 1):=by
 cases W with
 | nil=>simp at h
 | cons x r=>rfl
theorem znw {W:List ByteArray} {k:Nat} (h:k < W.length):zdp (W.drop k)=.ok (W.getD k default,W.drop (k+1)):=by
 rw [List.drop_eq_getElem_cons h,gE,eG h]; rfl
theorem zuh {W:List ByteArray} {k:Nat} (h:k < W.length) (h1:zgx (W.getD k default)=true):zes (W.drop k)=.ok (W.getD k default,W.drop (k+1)):=by
 rw [zes,znw h,zak]; exact if_pos h1
theorem sayD {W:List ByteArray} {u:ByteArray} {k:Nat} (h:k < W.length) (h1:((W.getD k default).toList == u.toList)=true):sayE u (W.drop k)=.ok ((),W.drop (k+1)):=by
 rw [sayE,znw h,zak]; exact if_pos h1
theorem numD {W:List ByteArray} {k:Nat} {n:Int} (h:k < W.length) (h1:numW (W.getD k default)=true) (h2:zdO (W.getD k default)=n):numE (W.drop k)=.ok (n,W.drop (k+1)):=by
 rw [numE,znw h,zak,←h2]; exact if_pos h1
theorem zqd {W:List ByteArray} {k:Nat} {n:Int} (h:k < W.length) (h1:numW (W.getD k default)=true) (h2:zdO (W.getD k default)=n):zco 1 (W.drop k)=.ok ([n],W.drop (k+1)):=by
 rw [zco,numD h h1 h2]; rfl
theorem zqe {W:List ByteArray} {k m:Nat} {n:Int} {l:List Int} {r:List ByteArray} (h:k < W.length) (h1:numW (W.getD k default)=true) (h2:zdO (W.getD k default)=n) (h3:zco m (W.drop (k+1))=.ok (l,r)):zco (m+1) (W.drop k)=.ok (n :: l,r):=by
 rw [zco,numD h h1 h2,zak]
 show(zco m (W.drop (k+1)) >>= _)=_
 rw [h3]; rfl
theorem zs3 {W:List ByteArray} {k:Nat} {n n2:Int} (h:k+1 < W.length) (h1:numW (W.getD k default)=true) (h2:zdO (W.getD k default)=n) (h3:numW (W.getD (k+1) default)=true) (h4:zdO (W.getD (k+1) default)=n2):zco 2 (W.drop k)=.ok ([n,n2],W.drop (k+2)):=
 zqe (by omega) h1 h2 (zqd h h3 h4)
theorem zs4 {W:List ByteArray} {k:Nat} {n n2 n3:Int} (h:k+2 < W.length) (h1:numW (W.getD k default)=true) (h2:zdO (W.getD k default)=n) (h3:numW (W.getD (k+1) default)=true) (h4:zdO (W.getD (k+1) default)=n2) (h5:numW (W.getD (k+1+1) default)=true) (h6:zdO (W.getD (k+1+1) default)=n3):zco 3 (W.drop k)=.ok ([n,n2,n3],W.drop (k+3)):=
 zqe (by omega) h1 h2 (zs3 h h3 h4 h5 h6)
theorem zv9 {W:List ByteArray} {k:Nat} {n n2 n3 n4:Int} (h:k+3 < W.length) (h1:numW (W.getD k default)=true) (h2:zdO (W.getD k default)=n) (h3:numW (W.getD (k+1) default)=true) (h4:zdO (W.getD (k+1) default)=n2) (h5:numW (W.getD (k+1+1) default)=true) (h6:zdO (W.getD (k+1+1) default)=n3) (h7:numW (W.getD (k+1+1+1) default)=true) (h8:zdO (W.getD (k+1+1+1) default)=n4):zco 4 (W.drop k)=.ok ([n,n2,n3,n4],W.drop (k+4)):=
 zqe (by omega) h1 h2 (zs4 (by omega) h3 h4 h5 h6 h7 h8)
theorem zlm {W:List ByteArray} {u:ByteArray} {k:Nat} {n:Int} (h:k+1 < W.length) (h0:((W.getD k default).toList == u.toList)=true) (h1:numW (W.getD (k+1) default)=true) (h2:zdO (W.getD (k+1) default)=n):oneE u 1 (W.drop k)=.ok ([n],W.drop (k+2)):=by
 rw [oneE,sayD (by omega) h0,zak]; exact zqd h h1 h2
theorem zur {W:List ByteArray} {u:ByteArray} {k:Nat} {n n2:Int} (h:k+2 < W.length) (h0:((W.getD k default).toList == u.toList)=true) (h1:numW (W.getD (k+1) default)=true) (h2:zdO (W.getD (k+1) default)=n) (h3:numW (W.getD (k+1+1) default)=true) (h4:zdO (W.getD (k+1+1) default)=n2):oneE u 2 (W.drop k)=.ok ([n,n2],W.drop (k+3)):=by
 rw [oneE,sayD (by omega) h0,zak]; exact zs3 h h1 h2 h3 h4
theorem zpU {W:List ByteArray} {acc acc2:List Int} {k:Nat} (h:k < W.length) (h1:((W.getD k default).toList == wLeast.toList)=false) (h2:numW (W.getD k default)=true) (h3:acc++[zdO (W.getD k default)]=acc2):zbF acc (W.drop k)=zbF acc2 (W.drop (k+1)):=by
 rw [gE,eG h,Option.getD_some] at h1 h2 h3
 rw [List.drop_eq_getElem_cons h,zbF,if_neg (by rw [show(W[k].toList == wLeast.toList)=false from h1]; exact fT),if_pos h2,←h3]
theorem zt1 {W:List ByteArray} {acc:List Int} {k:Nat} (h:k < W.length) (h1:((W.getD k default).toList == wLeast.toList)=true):zbF acc (W.drop k)=.ok (acc,W.drop k):=by
 rw [gE,eG h,Option.getD_some] at h1
 rw [List.drop_eq_getElem_cons h,zbF,if_pos h1]
theorem zv4 {W l:List ByteArray} {f k:Nat} {n:Int} (h:k < W.length) (h1:¬ zbJ (fun y=>(W.getD k default).toList == y.toList) (l.drop f) < 0∧zbJ (fun y=>(W.getD k default).toList == y.toList) (l.drop f)+f=n):zfk l f (W.drop k)=.ok (n,W.drop (k+1)):=by
 rw [zfk,znw h,zak,←h1.2]; exact if_neg h1.1
noncomputable def dB:List UInt8:=daleT.data.toList
noncomputable def dQ0:List UInt8:=(dB.drop 0).take 170
theorem dct0:cutL 10 (dB.drop 0)=dQ0 :: cutL 10 (dB.drop 171):=zbk 0 170 (by decide +kernel) (by decide +kernel)
noncomputable def dQ1:List UInt8:=(dB.drop 171).take 20
theorem dct1:cutL 10 (dB.drop 171)=dQ1 :: cutL 10 (dB.drop 192):=zbk 171 20 (by decide +kernel) (by decide +kernel)
noncomputable def dQ2:List UInt8:=(dB.drop 192).take 25
theorem dct2:cutL 10 (dB.drop 192)=dQ2 :: cutL 10 (dB.drop 218):=zbk 192 25 (by decide +kernel) (by decide +kernel)
theorem dct3:cutL 10 (dB.drop 218)=[dB.drop 218]:=zeD (zkC (by decide +kernel))
theorem zob:zcb daleT=[mkB dQ0,mkB dQ1,mkB dQ2]:=by
 unfold zcb
 rw [zcT]
 show zfN ((cutL 10 (dB.drop 0)).map mkB)=_
 rw [dct0,dct1,dct2,dct3]
 show zfN [mkB dQ0,mkB dQ1,mkB dQ2,mkB (dB.drop 218)]=_
 rw [zfN,zfN,zfN,zfN,if_pos (by decide +kernel)]
theorem zwD:cutL 32 (dQ0.drop 0)=(dQ0.drop 0).take 5 :: cutL 32 (dQ0.drop 6):=zbk 0 5 (by decide +kernel) (by decide +kernel)
theorem zwE:cutL 32 (dQ0.drop 6)=(dQ0.drop 6).take 4 :: cutL 32 (dQ0.drop 11):=zbk 6 4 (by decide +kernel) (by decide +kernel)
theorem zwF:cutL 32 (dQ0.drop 11)=(dQ0.drop 11).take 4 :: cutL 32 (dQ0.drop 16):=zbk 11 4 (by decide +kernel) (by decide +kernel)
theorem zwG:cutL 32 (dQ0.drop 16)=(dQ0.drop 16).take 3 :: cutL 32 (dQ0.drop 20):=zbk 16 3 (by decide +kernel) (by decide +kernel)
theorem zwH:cutL 32 (dQ0.drop 20)=(dQ0.drop 20).take 6 :: cutL 32 (dQ0.drop 27):=zbk 20 6 (by decide +kernel) (by decide +kernel)
theorem zwI:cutL 32 (dQ0.drop 27)=(dQ0.drop 27).take 3 :: cutL 32 (dQ0.drop 31):=zbk 27 3 (by decide +kernel) (by decide +kernel)
theorem zwJ:cutL 32 (dQ0.drop 31)=(dQ0.drop 31).take 6 :: cutL 32 (dQ0.drop 38):=zbk 31 6 (by decide +kernel) (by decide +kernel)
theorem zwK:cutL 32 (dQ0.drop 38)=(dQ0.drop 38).take 4 :: cutL 32 (dQ0.drop 43):=zbk 38 4 (by decide +kernel) (by decide +kernel)
theorem zwL:cutL 32 (dQ0.drop 43)=(dQ0.drop 43).take 4 :: cutL 32 (dQ0.drop 48):=zbk 43 4 (by decide +kernel) (by decide +kernel)
theorem zwM:cutL 32 (dQ0.drop 48)=(dQ0.drop 48).take 3 :: cutL 32 (dQ0.drop 52):=zbk 48 3 (by decide +kernel) (by decide +kernel)
theorem zvr:cutL 32 (dQ0.drop 52)=(dQ0.drop 52).take 7 :: cutL 32 (dQ0.drop 60):=zbk 52 7 (by decide +kernel) (by decide +kernel)
theorem zvs:cutL 32 (dQ0.drop 60)=(dQ0.drop 60).take 3 :: cutL 32 (dQ0.drop 64):=zbk 60 3 (by decide +kernel) (by decide +kernel)
theorem zvt:cutL 32 (dQ0.drop 64)=(dQ0.drop 64).take 3 :: cutL 32 (dQ0.drop 68):=zbk 64 3 (by decide +kernel) (by decide +kernel)
theorem zvu:cutL 32 (dQ0.drop 68)=(dQ0.drop 68).take 5 :: cutL 32 (dQ0.drop 74):=zbk 68 5 (by decide +kernel) (by decide +kernel)
theorem zvv:cutL 32 (dQ0.drop 74)=(dQ0.drop 74).take 2 :: cutL 32 (dQ0.drop 77):=zbk 74 2 (by decide +kernel) (by decide +kernel)
theorem zvw:cutL 32 (dQ0.drop 77)=(dQ0.drop 77).take 3 :: cutL 32 (dQ0.drop 81):=zbk 77 3 (by decide +kernel) (by decide +kernel)
theorem zvx:cutL 32 (dQ0.drop 81)=(dQ0.drop 81).take 2 :: cutL 32 (dQ0.drop 84):=zbk 81 2 (by decide +kernel) (by decide +kernel)
theorem zvy:cutL 32 (dQ0.drop 84)=(dQ0.drop 84).take 3 :: cutL 32 (dQ0.drop 88):=zbk 84 3 (by decide +kernel) (by decide +kernel)
theorem zvz:cutL 32 (dQ0.drop 88)=(dQ0.drop 88).take 1 :: cutL 32 (dQ0.drop 90):=zbk 88 1 (by decide +kernel) (by decide +kernel)
theorem zvA:cutL 32 (dQ0.drop 90)=(dQ0.drop 90).take 7 :: cutL 32 (dQ0.drop 98):=zbk 90 7 (by decide +kernel) (by decide +kernel)
theorem zvB:cutL 32 (dQ0.drop 98)=(dQ0.drop 98).take 3 :: cutL 32 (dQ0.drop 102):=zbk 98 3 (by decide +kernel) (by decide +kernel)
theorem zvC:cutL 32 (dQ0.drop 102)=(dQ0.drop 102).take 3 :: cutL 32 (dQ0.drop 106):=zbk 102 3 (by decide +kernel) (by decide +kernel)
theorem zvD:cutL 32 (dQ0.drop 106)=(dQ0.drop 106).take 7 :: cutL 32 (dQ0.drop 114):=zbk 106 7 (by decide +kernel) (by decide +kernel)
theorem zvE:cutL 32 (dQ0.drop 114)=(dQ0.drop 114).take 3 :: cutL 32 (dQ0.drop 118):=zbk 114 3 (by decide +kernel) (by decide +kernel)
theorem zvF:cutL 32 (dQ0.drop 118)=(dQ0.drop 118).take 3 :: cutL 32 (dQ0.drop 122):=zbk 118 3 (by decide +kernel) (by decide +kernel)
theorem zvG:cutL 32 (dQ0.drop 122)=(dQ0.drop 122).take 4 :: cutL 32 (dQ0.drop 127):=zbk 122 4 (by decide +kernel) (by decide +kernel)
theorem zvH:cutL 32 (dQ0.drop 127)=(dQ0.drop 127).take 4 :: cutL 32 (dQ0.drop 132):=zbk 127 4 (by decide +kernel) (by decide +kernel)
theorem zvI:cutL 32 (dQ0.drop 132)=(dQ0.drop 132).take 3 :: cutL 32 (dQ0.drop 136):=zbk 132 3 (by decide +kernel) (by decide +kernel)
theorem zvJ:cutL 32 (dQ0.drop 136)=(dQ0.drop 136).take 3 :: cutL 32 (dQ0.drop 140):=zbk 136 3 (by decide +kernel) (by decide +kernel)
theorem zvK:cutL 32 (dQ0.drop 140)=(dQ0.drop 140).take 3 :: cutL 32 (dQ0.drop 144):=zbk 140 3 (by decide +kernel) (by decide +kernel)
theorem zvL:cutL 32 (dQ0.drop 144)=(dQ0.drop 144).take 8 :: cutL 32 (dQ0.drop 153):=zbk 144 8 (by decide +kernel) (by decide +kernel)
theorem zvM:cutL 32 (dQ0.drop 153)=(dQ0.drop 153).take 3 :: cutL 32 (dQ0.drop 157):=zbk 153 3 (by decide +kernel) (by decide +kernel)
theorem zvN:cutL 32 (dQ0.drop 157)=(dQ0.drop 157).take 3 :: cutL 32 (dQ0.drop 161):=zbk 157 3 (by decide +kernel) (by decide +kernel)
theorem zvO:cutL 32 (dQ0.drop 161)=(dQ0.drop 161).take 4 :: cutL 32 (dQ0.drop 166):=zbk 161 4 (by decide +kernel) (by decide +kernel)
theorem zvP:cutL 32 (dQ0.drop 166)=[dQ0.drop 166]:=zeD (zkC (by decide +kernel))
noncomputable def dW0:List ByteArray:=[mkB ((dQ0.drop 0).take 5),mkB ((dQ0.drop 6).take 4),mkB ((dQ0.drop 11).take 4),mkB ((dQ0.drop 16).take 3),mkB ((dQ0.drop 20).take 6),mkB ((dQ0.drop 27).take 3),mkB ((dQ0.drop 31).take 6),mkB ((dQ0.drop 38).take 4),mkB ((dQ0.drop 43).take 4),mkB ((dQ0.drop 48).take 3),mkB ((dQ0.drop 52).take 7),mkB ((dQ0.drop 60).take 3),mkB ((dQ0.drop 64).take 3),mkB ((dQ0.drop 68).take 5),mkB ((dQ0.drop 74).take 2),mkB ((dQ0.drop 77).take 3),mkB ((dQ0.drop 81).take 2),mkB ((dQ0.drop 84).take 3),mkB ((dQ0.drop 88).take 1),mkB ((dQ0.drop 90).take 7),mkB ((dQ0.drop 98).take 3),mkB ((dQ0.drop 102).take 3),mkB ((dQ0.drop 106).take 7),mkB ((dQ0.drop 114).take 3),mkB ((dQ0.drop 118).take 3),mkB ((dQ0.drop 122).take 4),mkB ((dQ0.drop 127).take 4),mkB ((dQ0.drop 132).take 3),mkB ((dQ0.drop 136).take 3),mkB ((dQ0.drop 140).take 3),mkB ((dQ0.drop 144).take 8),mkB ((dQ0.drop 153).take 3),mkB ((dQ0.drop 157).take 3),mkB ((dQ0.drop 161).take 4),mkB (dQ0.drop 166)]
theorem zvh:zcn (mkB dQ0) 32=dW0:=by
 rw [zcT]
 show(cutL 32 (dQ0.drop 0)).map mkB=_
 rw [zwD,zwE,zwF,zwG,zwH,zwI,zwJ,zwK,zwL,zwM,zvr,zvs,zvt,zvu,zvv,zvw,zvx,zvy,zvz,zvA,zvB,zvC,zvD,zvE,zvF,zvG,zvH,zvI,zvJ,zvK,zvL,zvM,zvN,zvO,zvP]
 rfl
theorem zxn:idle (mkB dQ0)=false:=by decide +kernel
theorem zwN:cutL 32 (dQ1.drop 0)=(dQ1.drop 0).take 4 :: cutL 32 (dQ1.drop 5):=zbk 0 4 (by decide +kernel) (by decide +kernel)
theorem zwO:cutL 32 (dQ1.drop 5)=(dQ1.drop 5).take 5 :: cutL 32 (dQ1.drop 11):=zbk 5 5 (by decide +kernel) (by decide +kernel)
theorem zwP:cutL 32 (dQ1.drop 11)=(dQ1.drop 11).take 4 :: cutL 32 (dQ1.drop 16):=zbk 11 4 (by decide +kernel) (by decide +kernel)
theorem zwQ:cutL 32 (dQ1.drop 16)=[dQ1.drop 16]:=zeD (zkC (by decide +kernel))
noncomputable def dW1:List ByteArray:=[mkB ((dQ1.drop 0).take 4),mkB ((dQ1.drop 5).take 5),mkB ((dQ1.drop 11).take 4),mkB (dQ1.drop 16)]
theorem zvi:zcn (mkB dQ1) 32=dW1:=by
 rw [zcT]
 show(cutL 32 (dQ1.drop 0)).map mkB=_
 rw [zwN,zwO,zwP,zwQ]
 rfl
theorem zxo:idle (mkB dQ1)=false:=by decide +kernel
theorem zwR:cutL 32 (dQ2.drop 0)=(dQ2.drop 0).take 4 :: cutL 32 (dQ2.drop 5):=zbk 0 4 (by decide +kernel) (by decide +kernel)
theorem zwS:cutL 32 (dQ2.drop 5)=(dQ2.drop 5).take 5 :: cutL 32 (dQ2.drop 11):=zbk 5 5 (by decide +kernel) (by decide +kernel)
theorem zwT:cutL 32 (dQ2.drop 11)=(dQ2.drop 11).take 4 :: cutL 32 (dQ2.drop 16):=zbk 11 4 (by decide +kernel) (by decide +kernel)
theorem zwU:cutL 32 (dQ2.drop 16)=(dQ2.drop 16).take 3 :: cutL 32 (dQ2.drop 20):=zbk 16 3 (by decide +kernel) (by decide +kernel)
theorem zwV:cutL 32 (dQ2.drop 20)=(dQ2.drop 20).take 1 :: cutL 32 (dQ2.drop 22):=zbk 20 1 (by decide +kernel) (by decide +kernel)
theorem zwW:cutL 32 (dQ2.drop 22)=[dQ2.drop 22]:=zeD (zkC (by decide +kernel))
noncomputable def dW2:List ByteArray:=[mkB ((dQ2.drop 0).take 4),mkB ((dQ2.drop 5).take 5),mkB ((dQ2.drop 11).take 4),mkB ((dQ2.drop 16).take 3),mkB ((dQ2.drop 20).take 1),mkB (dQ2.drop 22)]
theorem zvj:zcn (mkB dQ2) 32=dW2:=by
 rw [zcT]
 show(cutL 32 (dQ2.drop 0)).map mkB=_
 rw [zwR,zwS,zwT,zwU,zwV,zwW]
 rfl
theorem zxp:idle (mkB dQ2)=false:=by decide +kernel
theorem dn0:zes (dW0.drop 1)=.ok ((mkB ((dQ0.drop 6).take 4)),dW0.drop 2):=zuh (by decide) (by decide +kernel)
theorem zwz:oneE ⟨#[98,97,115,101]⟩ 1 (dW0.drop 2)=.ok ([700],dW0.drop 4):=zlm (by decide) (by decide +kernel) (by decide +kernel) (by decide +kernel)
theorem ztC:oneE ⟨#[98,97,116,116,101,114]⟩ 1 (dW0.drop 4)=.ok ([100],dW0.drop 6):=zlm (by decide) (by decide +kernel) (by decide +kernel) (by decide +kernel)
theorem ztD:oneE ⟨#[104,101,105,103,104,116]⟩ 1 (dW0.drop 6)=.ok ([1200],dW0.drop 8):=zlm (by decide) (by decide +kernel) (by decide +kernel) (by decide +kernel)
theorem zwX:oneE ⟨#[115,107,105,110]⟩ 1 (dW0.drop 8)=.ok ([250],dW0.drop 10):=zlm (by decide) (by decide +kernel) (by decide +kernel) (by decide +kernel)
theorem zrm:sayE ⟨#[104,101,105,103,104,116,115]⟩ (dW0.drop 10)=.ok ((),dW0.drop 11):=sayD (by decide) (by decide +kernel)
theorem dh0:zbF [] (dW0.drop 11)=zbF [200] (dW0.drop 12):=zpU (by decide) (by decide +kernel) (by decide +kernel) (by decide +kernel)
theorem dh1:zbF [200] (dW0.drop 12)=zbF [200,180] (dW0.drop 13):=zpU (by decide) (by decide +kernel) (by decide +kernel) (by decide +kernel)
theorem dhe:zbF [200,180] (dW0.drop 13)=.ok ([200,180],dW0.drop 13):=zt1 (by decide) (by decide +kernel)
theorem dhs:zbF [] (dW0.drop 11)=.ok ([200,180],dW0.drop 13):=by rw [dh0,dh1,dhe]
theorem zvm:oneE ⟨#[108,101,97,115,116]⟩ 1 (dW0.drop 13)=.ok ([60],dW0.drop 15):=zlm (by decide) (by decide +kernel) (by decide +kernel) (by decide +kernel)
theorem dlap:oneE ⟨#[108,97,112]⟩ 1 (dW0.drop 15)=.ok ([60],dW0.drop 17):=zlm (by decide) (by decide +kernel) (by decide +kernel) (by decide +kernel)
theorem drun:oneE ⟨#[114,117,110]⟩ 1 (dW0.drop 17)=.ok ([2],dW0.drop 19):=zlm (by decide) (by decide +kernel) (by decide +kernel) (by decide +kernel)
theorem zrn:oneE ⟨#[116,104,114,111,117,103,104]⟩ 2 (dW0.drop 19)=.ok ([900,500],dW0.drop 22):=zur (by decide) (by decide +kernel) (by decide +kernel) (by decide +kernel) (by decide +kernel) (by decide +kernel)
theorem zrl:oneE ⟨#[102,111,111,116,105,110,103]⟩ 2 (dW0.drop 22)=.ok ([200,100],dW0.drop 25):=zur (by decide) (by decide +kernel) (by decide +kernel) (by decide +kernel) (by decide +kernel) (by decide +kernel)
theorem zwA:sayE ⟨#[99,111,112,101]⟩ (dW0.drop 25)=.ok ((),dW0.drop 26):=sayD (by decide) (by decide +kernel)
theorem zwB:zfk zeZ 0 (dW0.drop 26)=.ok (3,dW0.drop 27):=zv4 (by decide) (by decide +kernel)
theorem dc3:zco 3 (dW0.drop 27)=.ok ([300,200,150],dW0.drop 30):=zs4 (by decide) (by decide +kernel) (by decide +kernel) (by decide +kernel) (by decide +kernel) (by decide +kernel) (by decide +kernel)
theorem zpg:oneE ⟨#[102,114,105,99,116,105,111,110]⟩ 2 (dW0.drop 30)=.ok ([500,700],dW0.drop 33):=zur (by decide) (by decide +kernel) (by decide +kernel) (by decide +kernel) (by decide +kernel) (by decide +kernel)
theorem zwC:oneE ⟨#[114,111,111,100]⟩ 1 (dW0.drop 33)=.ok ([6000],dW0.drop 35):=zlm (by decide) (by decide +kernel) (by decide +kernel) (by decide +kernel)
noncomputable def dSh:Sht:=⟨(mkB ((dQ0.drop 6).take 4)),700,100,1200,250,[200,180],60,60,2,900,500,200,100,3,300,200,150,500,700,6000⟩
theorem zvQ:zci (dW0.drop 1)=.ok (dSh,dW0.drop 35):=by
 unfold zci
 simp only [dn0,zwz,ztC,ztD,zwX,zrm,dhs,zvm,dlap,drun,zrn,zrl,zwA,zwB,dc3,zpg,zwC,zak]
 rfl
theorem zpj:za4 dSh=true:=by decide +kernel
theorem zvn:zcu ⟨[],[]⟩ ((mkB dQ0))=.ok ⟨[dSh],[]⟩:=by
 have h1:zff ⟨[],[]⟩ (mkB ((dQ0.drop 0).take 5)) (dW0.drop 1)=zb3 ⟨[],[]⟩ (dW0.drop 1):=if_pos (by decide +kernel)
 have h2:endE (dW0.drop 35)=.ok ((),dW0.drop 35):=if_pos (by decide)
 unfold zcu
 rw [zvh,zui (W:=dW0) (by decide),zak]
 show zff ⟨[],[]⟩ (mkB ((dQ0.drop 0).take 5)) (dW0.drop 1)=_
 rw [h1]
 unfold zb3
 simp only [zvQ,zak,h2]
 rw [if_neg (by decide),if_pos zpj]
 rfl
noncomputable def dWl0:Wll:=⟨(mkB ((dQ1.drop 5).take 5)),(mkB ((dQ1.drop 11).take 4)),3000,[]⟩
theorem zvo:zcu ⟨[dSh],[]⟩ ((mkB dQ1))=.ok ⟨[dSh],[dWl0]⟩:=by
 have h1:zff ⟨[dSh],[]⟩ (mkB ((dQ1.drop 0).take 4)) (dW1.drop 1)=zb1 ⟨[dSh],[]⟩ (dW1.drop 1):=(if_neg (by decide +kernel)).trans (if_pos (by decide +kernel))
 have h2:zes (dW1.drop 1)=.ok ((mkB ((dQ1.drop 5).take 5)),dW1.drop 2):=zuh (by decide) (by decide +kernel)
 have h3:zes (dW1.drop 2)=.ok ((mkB ((dQ1.drop 11).take 4)),dW1.drop 3):=zuh (by decide) (by decide +kernel)
 have h4:zco 1 (dW1.drop 3)=.ok ([3000],dW1.drop 4):=zqd (by decide) (by decide +kernel) (by decide +kernel)
 have h5:endE (dW1.drop 4)=.ok ((),dW1.drop 4):=if_pos (by decide)
 unfold zcu
 rw [zvi,zui (W:=dW1) (by decide),zak]
 show zff ⟨[dSh],[]⟩ (mkB ((dQ1.drop 0).take 4)) (dW1.drop 1)=_
 rw [h1]
 unfold zb1
 simp only [h2,h3,h4,h5,zak]
 rw [if_neg (by decide),if_pos (by decide +kernel),if_pos (by decide +kernel)]
 rfl
def dOp:Opn:=⟨1,1000,250,0,220⟩
noncomputable def dWl:Wll:=more dWl0 dOp
theorem zvp:zcu ⟨[dSh],[dWl0]⟩ ((mkB dQ2))=.ok ⟨[dSh],[dWl]⟩:=by
 have h1:zff ⟨[dSh],[dWl0]⟩ (mkB ((dQ2.drop 0).take 4)) (dW2.drop 1)=zch ⟨[dSh],[dWl0]⟩ (dW2.drop 1):=(if_neg (by decide +kernel)).trans ((if_neg (by decide +kernel)).trans (if_pos (by decide +kernel)))
 have h2:zfk opensW 1 (dW2.drop 1)=.ok (1,dW2.drop 2):=zv4 (by decide) (by decide +kernel)
 have h3:zco 4 (dW2.drop 2)=.ok ([1000,250,0,220],dW2.drop 6):=zv9 (by decide) (by decide +kernel) (by decide +kernel) (by decide +kernel) (by decide +kernel) (by decide +kernel) (by decide +kernel) (by decide +kernel) (by decide +kernel)
 have h5:endE (dW2.drop 6)=.ok ((),dW2.drop 6):=if_pos (by decide)
 have h6:zd1 (getS [dSh] dWl0.sheet).height (more dWl0 dOp)=true:=by decide +kernel
 unfold zcu
 rw [zvj,zui (W:=dW2) (by decide),zak]
 show zff ⟨[dSh],[dWl0]⟩ (mkB ((dQ2.drop 0).take 4)) (dW2.drop 1)=_
 rw [h1]
 unfold zch
 simp only [h2,h3,h5,zak]
 exact(if_neg (by decide)).trans (if_pos h6)
theorem zgT:zgA daleT=(⟨[dSh],[dWl]⟩,0,0):=by
 refine zkf (by have:=zpe; omega) ?_
 rw [zob,zhB zxn zvn,zhB zxo zvo,zhB zxp zvp]
 rfl
end Go.Proofs.YteepmmghanbllaaGreatDoor
namespace Go.Proofs.YteepmmghanbllaaGreatDoor
open Go.K Go.Stn Go.Pln Go.Fld Go.RowKit
theorem zjk {c:Cx} {ds:List Deferred} {T:List (Nat×Value)} {H:List Res} {K:Act→World→Prop} {y:PTy} {ra:Option Addr} {rc:Nat} {S:List ShC} {rb:Option Addr} {rd:Nat} {V:List WlC} {q:Plan}
  (h:S.map (·.s)=q.S→V.map (·.s)=q.V→GK c ds K T (Row ra 20 rc y.s zbH S :: Go.K.Rows (rowH y.i) S :: Row rb 4 rd y.w zbS V :: Go.K.Rows (rowO y.o) V :: H)):GK c ds K T (PlR y ((ra,rc,S),(rb,rd,V)) q :: H):=by
 intro a w ha hw
 obtain⟨hb,B,hB,⟨h1,h2,h3⟩,hr⟩:=hw
 exact h h1 h2 a w ha (Hp.split (L:=[_,_,_,_]) ⟨hb,B,hB,h3,hr⟩)
theorem zp7 {α β:Type} {f:α→β} {l:List α} {x:β} (h:l.map f=[x]):∃ y,l=[y]∧f y=x:=by
 cases l with
 | nil=>cases h
 | cons y r=>
  cases r with
  | nil=>rw [List.map_cons,List.map_nil,List.cons.injEq] at h; exact⟨y,rfl,h.1⟩
  | cons z t=>rw [List.map_cons,List.map_cons] at h; cases h
abbrev wkC:List ByteArray:=[⟨#[109,111,111,114]⟩,⟨#[99,114,111,102,116]⟩]
abbrev wkB:List Bdr:=[⟨0,1,⟨#[110,111,114,116,104]⟩,0,0,false⟩]
abbrev wkH:Anm:=⟨150,200,100,600,300⟩
abbrev wkE:Anm:=⟨400,700,250,1100,600⟩
section
variable {z0:ShC} {v0:WlC} (hz:z0.s=dSh) (hv:v0.s=dWl)
include hz hv
theorem zBC:zym [z0] [v0] wkC wkB wkH=true∧zym [z0] [v0] wkC wkB wkE=true:=by
 obtain⟨s,a,c⟩:=z0; obtain⟨v,b,d⟩:=v0
 simp only at hz hv; subst hz hv
 exact⟨by kernel_rfl,by kernel_rfl⟩
theorem zGL:zyj [z0] [v0] wkB wkH=[(⟨0,1,0,0,1⟩,⟨1,0,0,0,1⟩)]:=by
 obtain⟨s,a,c⟩:=z0; obtain⟨v,b,d⟩:=v0
 simp only at hz hv; subst hz hv
 kernel_rfl
theorem zHq:zyj [z0] [v0] wkB wkE=[(⟨0,1,0,-2,0⟩,⟨1,0,0,-2,0⟩)]:=by
 obtain⟨s,a,c⟩:=z0; obtain⟨v,b,d⟩:=v0
 simp only at hz hv; subst hz hv
 kernel_rfl
theorem zH7:smN [z0] [v0] wkB wkH true 1=[(0,0)]∧smN [z0] [v0] wkB wkH false 1=[]:=by
 obtain⟨s,a,c⟩:=z0; obtain⟨v,b,d⟩:=v0
 simp only at hz hv; subst hz hv
 exact⟨by kernel_rfl,by kernel_rfl⟩
theorem zEt:zyv [z0] [v0] wkC wkB wkH 0 false=⟨0,1,0⟩∧zyv [z0] [v0] wkC wkB wkE 0 false=⟨0,0,8⟩:=by
 obtain⟨l1,l2⟩:=zBC hz hv
 unfold zyv wayI
 rw [if_pos l1,if_pos l2,zGL hz hv,zHq hz hv]
 exact⟨by kernel_rfl,by kernel_rfl⟩
theorem zFj:atE [z0] [v0] wkC wkB wkE [1]=0∧rchA [z0] [v0] wkC wkB wkE 1=[1]:=by
 obtain⟨l1,l2⟩:=zBC hz hv
 have h:atE [z0] [v0] wkC wkB wkE [1]=0:=zFF l2 (by kernel_rfl)
 refine⟨h,?_⟩
 unfold rchA
 rw [if_pos h,zHq hz hv]
 kernel_rfl
theorem zFi:prtE [z0] [v0] wkC wkB wkH 0 1=0∧(clA [z0] [v0] wkC wkB wkH 0 1).length=1∧(wkA [z0] [v0] wkC wkB wkH 0 1).length=1:=by
 obtain⟨l1,l2⟩:=zBC hz hv
 have h0:atE [z0] [v0] wkC wkB wkH [0,1]=0:=zFF l1 (by kernel_rfl)
 have h:prtE [z0] [v0] wkC wkB wkH 0 1=0:=by unfold prtE; rw [if_pos h0,if_neg (by decide)]
 refine⟨h,?_,?_⟩
 ·unfold clA
  rw [if_pos h,zGL hz hv]
  kernel_rfl
 ·unfold wkA
  rw [if_pos h,zGL hz hv]
  kernel_rfl
theorem zFk:zBP [z0] [v0] wkC wkB wkH=0∧(smA [z0] [v0] wkC wkB wkH true).length=1∧(smA [z0] [v0] wkC wkB wkH false).length=0:=by
 obtain⟨l1,l2⟩:=zBC hz hv
 obtain⟨s1,s2⟩:=zH7 hz hv
 refine⟨if_pos l1,?_,?_⟩
 ·unfold smA; rw [if_pos l1]; show(smN [z0] [v0] wkB wkH true 1).length=1; rw [s1]; rfl
 ·unfold smA; rw [if_pos l1]; show(smN [z0] [v0] wkB wkH false 1).length=0; rw [s2]; rfl
end
section
variable {z0:ShC} (hz:z0.s=dSh)
include hz
theorem zjy:∀ z∈[z0],zaP z.s.heights.length:=fun z h=>by rw [List.mem_singleton.1 h,hz]; decide +kernel
end
theorem zn2 {v0:WlC} (hv:v0.s=dWl):∀ z∈[v0],zaP z.s.opens.length:=fun z h=>by rw [List.mem_singleton.1 h,hv]; decide +kernel
theorem zsv {v0:WlC} (hv:v0.s=dWl):∀ z∈[v0],∀ o∈z.s.opens,Knd o:=fun z h o ho=>by
 rw [List.mem_singleton.1 h,hv] at ho
 have:o=dOp:=List.mem_singleton.1 (show o∈[dOp] from ho)
 rw [this]; decide
theorem en15:En Tryz.prog 15:=eK Tryz.func15
theorem en16:En Tryz.prog 16:=eK Tryz.func16
theorem en23:En Tryz.prog 23:=eK Tryz.func23
theorem en24:En Tryz.prog 24:=eK Tryz.func24
theorem en44:En Tryz.prog 44:=eK Tryz.func44
theorem en45:En Tryz.prog 45:=eK Tryz.func45
theorem zC9 (x0a:Option Addr) (x0n x0c:Nat) (x1a:Option Addr) (x1n x1c:Nat) (w:World):(Instr.build 40 #[(0,.slice x0a x0n x0c),(1,.slice x1a x1n x1c)]).run Tryz.prog w=.ok (.agg #[.slice x0a x0n x0c,.slice x1a x1n x1c]) w:=by kernel_rfl
theorem zDa (x0:Int) (x1:ByteArray) (w:World):(Instr.build 64 #[(1,.int .i64 x0),(2,.string x1)]).run Tryz.prog w=.ok (.agg #[.int .i64 0,.int .i64 x0,.string x1,.int .i64 0,.int .i64 0,.bool false]) w:=by kernel_rfl
theorem zG3 (x0_0 x1_0:ByteArray) (w:World):(Instr.buildSlice 26 2 #[(0,.string x0_0),(1,.string x1_0)]).run Tryz.prog w=.ok (.slice (some ⟨w.heap.size,0,none⟩) 2 2) (w.alloc (.cells (([x0_0,x1_0]:List (ByteArray)).flatMap encS).toArray 9)):=by kernel_rfl
theorem zz3  (w:World) (hmx:Has w (IntV 2)) (hcp:Has w (zaW (some ⟨1,0,none⟩) 1 encS zeZ)) (hop:Has w (zaW (some ⟨0,0,none⟩) 1 encS opensW)) :
  Calls Tryz.prog 14 #[] w (Pure (.bool true) w):=by
 refine zan (vs:=[]) Tryz.func14 rfl rfl (bL rfl) (gS (gA rfl (gN [0] rfl (gS (gQ (zaJ en45 rfl (fun w hw=>zvl w)) (zaG rfl rfl (zbm en44 rfl (fun w hw=>zus daleT w (rH hmx hw) (rH hcp hw) (rH hop hw))) fun p23=>(gM rfl (gQ (zaB rfl rfl) (gQ (zaB rfl rfl) (gQ (zaB rfl rfl) (zaG rfl rfl (zaL tf37 (zs:=[_,_]) rfl) fun b1=>(zaA 0 tf37 rfl rfl (vs:=[_,_]) rfl rfl rfl rfl rfl (gA rfl (gA rfl (gN [0,1,3] rfl (zao 1 rfl ?_))))))))))))))))
 obtain⟨⟨ra,rc,S⟩,⟨rb,rd,V⟩⟩:=p23
 refine za2 (R':=PlR yP ((ra,rc,S),(rb,rd,V)) ⟨[dSh],[dWl]⟩) 0 rfl (fun B w hA=>by rw [zgT] at hA; exact hA) (zjk fun hS hV=>?_)
 obtain⟨z0,rfl,hz⟩:=zp7 hS
 obtain⟨v0,rfl,hv⟩:=zp7 hV
 have hl1:([z0]:List ShC).length=1:=rfl
 have hl2:([v0]:List WlC).length=1:=rfl
 obtain⟨hA1,hA2⟩:=zEt hz hv
 obtain⟨hR1,hR2⟩:=zFj hz hv
 obtain⟨hC1,hC2,hC3⟩:=zFi hz hv
 obtain⟨hS1,hS2,hS3⟩:=zFk hz hv
 have hRl:(rchA [z0] [v0] wkC wkB wkE 1).length=1:=by rw [hR2]; rfl
 refine za2 (R':=Box b1 [.slice ra 1 rc,.slice rb 1 rd] 37) 4 rfl (fun B w hA=>hA) (zae (T':=[(0,_),(1,_),(3,.int .i64 0)]) ⟨rfl,rfl,(by rw [zgT]; rfl),trivial⟩ (gS (zaG rfl rfl (zaD rfl (zG3 _ _) ztJ rfl) fun b27=>(gQ (zaI rfl (zDa _ _)) (zaG rfl rfl (zaD rfl (zsE _ _ _ _ _ _) zyx rfl) fun b29=>(gQ (zaI rfl (zC9 _ _ _ _ _ _)) (zaG rfl rfl (zaL tf40 (zs:=[_,_]) rfl) fun b4=>(zaA 0 tf40 rfl rfl (vs:=[_,_]) rfl rfl rfl rfl rfl (gN [0,1,3,4] rfl (gS (gQ (zaI rfl (zyE _ _ _ _ _)) (zaG rfl rfl (zaL tf41 (zs:=[_,_,_,_,_]) rfl) fun b5=>(zaA 0 tf41 rfl rfl (vs:=[_,_,_,_,_]) rfl rfl rfl rfl rfl (gN [0,1,3,4,5] rfl (gS (gQ (zaI rfl (zyE _ _ _ _ _)) (zaG rfl rfl (zaL tf41 (zs:=[_,_,_,_,_]) rfl) fun b6=>(zaA 0 tf41 rfl rfl (vs:=[_,_,_,_,_]) rfl rfl rfl rfl rfl (gN [0,1,3,4,5,6] rfl (gS (gQ (zat 9 tf37 rfl rfl (vs:=[_,_]) rfl rfl) (gQ (zat 2 tf40 rfl rfl (vs:=[_,_]) rfl rfl) (gQ (zat 1 tf41 rfl rfl (vs:=[_,_,_,_,_]) rfl rfl) ?_)))))))))))))))))))))))
 refine gQ (zaJ en24 rfl (fun w hw=>zAz _ _ [z0] _ _ [v0] _ _ wkC _ _ wkB wkH 0 false w (zam zbI (hw.has (p:=5) rfl)) (show zaP 1 by decide) (zcM (hw.has (p:=5) rfl)) (zam zbo (hw.has (p:=7) rfl)) (show zaP 1 by decide) (fun z hz2=>zam Go.Stn.encI_ok (zbV (f:=rowH 3) (hw.has (p:=6) rfl) hz2)) (zjy hz) (fun z hz2=>zam zyn (zbV (f:=rowO 122) (hw.has (p:=8) rfl) hz2)) (zn2 hv) (fun z hz2=>zcM (zbV (f:=rowO 122) (hw.has (p:=8) rfl) hz2)) (zsv hv) (zam ztJ (hw.has (p:=4) rfl)) (show zaP 2 by decide) (show 2≤2 by decide) (zam zyx (hw.has (p:=3) rfl)) (show zaP 1 by decide))) (gM rfl (gQ (zaB rfl rfl) (gQ (zaB rfl rfl) (gQ (zaB rfl rfl) (gA rfl (gA rfl (gA rfl (gN [0,1,3,4,5,6,7,8,9] rfl (gS (gQ (zat 9 tf37 rfl rfl (vs:=[_,_]) rfl rfl) (gQ (zat 2 tf40 rfl rfl (vs:=[_,_]) rfl rfl) (gQ (zat 0 tf41 rfl rfl (vs:=[_,_,_,_,_]) rfl rfl) ?_))))))))))))
 refine gQ (zaJ en24 rfl (fun w hw=>zAz _ _ [z0] _ _ [v0] _ _ wkC _ _ wkB wkE 0 false w (zam zbI (hw.has (p:=5) rfl)) (show zaP 1 by decide) (zcM (hw.has (p:=5) rfl)) (zam zbo (hw.has (p:=7) rfl)) (show zaP 1 by decide) (fun z hz2=>zam Go.Stn.encI_ok (zbV (f:=rowH 3) (hw.has (p:=6) rfl) hz2)) (zjy hz) (fun z hz2=>zam zyn (zbV (f:=rowO 122) (hw.has (p:=8) rfl) hz2)) (zn2 hv) (fun z hz2=>zcM (zbV (f:=rowO 122) (hw.has (p:=8) rfl) hz2)) (zsv hv) (zam ztJ (hw.has (p:=4) rfl)) (show zaP 2 by decide) (show 2≤2 by decide) (zam zyx (hw.has (p:=3) rfl)) (show zaP 1 by decide))) (gM rfl (gQ (zaB rfl rfl) (gQ (zaB rfl rfl) (gQ (zaB rfl rfl) (gA rfl (gA rfl (gA rfl (gN [0,1,3,4,5,6,7,8,9,12] rfl (gS (gQ (zat 9 tf37 rfl rfl (vs:=[_,_]) rfl rfl) (gQ (zat 2 tf40 rfl rfl (vs:=[_,_]) rfl rfl) (gQ (zat 0 tf41 rfl rfl (vs:=[_,_,_,_,_]) rfl rfl) ?_))))))))))))
 refine zaG rfl rfl (zbm en15 rfl (fun w hw=>zE5 _ _ [z0] _ _ [v0] _ _ wkC _ _ wkB wkE 1 w (zam zbI (hw.has (p:=5) rfl)) (show zaP 1 by decide) (zcM (hw.has (p:=5) rfl)) (zam zbo (hw.has (p:=7) rfl)) (show zaP 1 by decide) (fun z hz2=>zam Go.Stn.encI_ok (zbV (f:=rowH 3) (hw.has (p:=6) rfl) hz2)) (zjy hz) (fun z hz2=>zam zyn (zbV (f:=rowO 122) (hw.has (p:=8) rfl) hz2)) (zn2 hv) (fun z hz2=>zcM (zbV (f:=rowO 122) (hw.has (p:=8) rfl) hz2)) (zsv hv) (zam ztJ (hw.has (p:=4) rfl)) (show zaP 2 by decide) (show 2≤2 by decide) (zam zyx (hw.has (p:=3) rfl)) (show zaP 1 by decide))) fun p53=>(gM rfl (gQ (zaB rfl rfl) (gQ (zaB rfl rfl) (gA rfl (gA rfl (gN [0,1,3,4,5,7,8,9,12,13,14] rfl (gS (gQ (zat 10 tf37 rfl rfl (vs:=[_,_]) rfl rfl) (gQ (zat 3 tf40 rfl rfl (vs:=[_,_]) rfl rfl) (gQ (zat 2 tf41 rfl rfl (vs:=[_,_,_,_,_]) rfl rfl) ?_))))))))))
 refine zaG rfl rfl (zbm en23 rfl (fun w hw=>zEF _ _ [z0] _ _ [v0] _ _ wkC _ _ wkB wkH 0 1 w (zam zbI (hw.has (p:=6) rfl)) (show zaP 1 by decide) (zcM (hw.has (p:=6) rfl)) (zam zbo (hw.has (p:=8) rfl)) (show zaP 1 by decide) (fun z hz2=>zam Go.Stn.encI_ok (zbV (f:=rowH 3) (hw.has (p:=7) rfl) hz2)) (zjy hz) (fun z hz2=>zam zyn (zbV (f:=rowO 122) (hw.has (p:=9) rfl) hz2)) (zn2 hv) (fun z hz2=>zcM (zbV (f:=rowO 122) (hw.has (p:=9) rfl) hz2)) (zsv hv) (zam ztJ (hw.has (p:=5) rfl)) (show zaP 2 by decide) (show 2≤2 by decide) (zam zyx (hw.has (p:=4) rfl)) (show zaP 1 by decide))) fun p60=>(gM rfl (gQ (zaB rfl rfl) (gQ (zaB rfl rfl) (gQ (zaB rfl rfl) (gA rfl (gA rfl (gA rfl (gN [0,1,3,4,5,7,8,9,12,13,14,15,16,17] rfl (zz4 fun hWK=>?_)))))))))
 have hKl:p60.2.2.length=1:=by have h:=congrArg List.length hWK; rw [lM] at h; rw [h]; exact hC3
 refine gS (gQ (zat 11 tf37 rfl rfl (vs:=[_,_]) rfl rfl) (gQ (zat 4 tf40 rfl rfl (vs:=[_,_]) rfl rfl) (gQ (zat 3 tf41 rfl rfl (vs:=[_,_,_,_,_]) rfl rfl) (zaG rfl rfl (zbm en16 rfl (fun w hw=>zE7 _ _ [z0] _ _ [v0] _ _ wkC _ _ wkB wkH w (zam zbI (hw.has (p:=7) rfl)) (show zaP 1 by decide) (zcM (hw.has (p:=7) rfl)) (zam zbo (hw.has (p:=9) rfl)) (show zaP 1 by decide) (fun z hz2=>zam Go.Stn.encI_ok (zbV (f:=rowH 3) (hw.has (p:=8) rfl) hz2)) (zjy hz) (fun z hz2=>zam zyn (zbV (f:=rowO 122) (hw.has (p:=10) rfl) hz2)) (zn2 hv) (fun z hz2=>zcM (zbV (f:=rowO 122) (hw.has (p:=10) rfl) hz2)) (zsv hv) (zam ztJ (hw.has (p:=6) rfl)) (show zaP 2 by decide) (show 2≤2 by decide) (zam zyx (hw.has (p:=5) rfl)) (show zaP 1 by decide))) fun p68=>(gM rfl (gQ (zaB rfl rfl) (gQ (zaB rfl rfl) (gQ (zaB rfl rfl) (gA rfl (gA rfl (gA rfl (gN [0,3,7,8,9,12,13,14,15,16,17,18,19,20] rfl (gS (gM rfl (gQ (zbL rfl rfl) (gM rfl (gT rfl rfl rfl (gM rfl (gT rfl rfl rfl (gQ (zbQ (zbL rfl rfl) (by rw [hA1]; rfl)) (gQ (za5 rfl rfl rfl) (gM rfl (gT rfl rfl rfl (gM rfl (gT rfl rfl rfl (gQ (zbQ (zbL rfl rfl) (by rw [hA1]; rfl)) ?_))))))))))))))))))))))))))
 refine gQ (za5 rfl rfl rfl) (gM rfl (gT rfl rfl rfl (gM rfl (gT rfl rfl rfl (gQ (zbQ (zbL rfl rfl) (by rw [hA1]; rfl)) (gQ (za5 rfl rfl rfl) (gM rfl (gT rfl rfl rfl (gM rfl (gT rfl rfl rfl (gQ (zbQ (zbL rfl rfl) (by rw [hA2]; rfl)) (gQ (za5 rfl rfl rfl) (gM rfl (gT rfl rfl rfl (gM rfl (gT rfl rfl rfl (gQ (zbQ (zbL rfl rfl) (by exact decide_eq_true hR1)) (gQ (za5 rfl rfl rfl) (gM rfl (gT rfl rfl rfl (gM rfl (gT rfl rfl rfl (gQ (zaV (Tryz.underlying45) rfl) (gT rfl rfl rfl (gQ (zbQ (zbL rfl rfl) (by rw [hRl]; rfl)) (gQ (za5 rfl rfl rfl) (gM rfl (gT rfl rfl rfl (gM rfl (gT rfl rfl rfl (gQ (zaE se45 rfl rfl (fun _ hw=>(zam Go.Stn.encI_ok (hw.has (p:=2) rfl)))) (gT rfl rfl rfl (gQ (zcE tf3 rfl (fun _ hw=>(zam Go.Stn.encI_ok (hw.has (p:=2) rfl))) (by omega) (by omega) rfl) (gT rfl rfl rfl (gQ (zbQ (zbL rfl rfl) (by rw [show(0:Int).toNat=0 from rfl,hR2]; rfl)) (gQ (za5 rfl rfl rfl) (gM rfl (gT rfl rfl rfl (gM rfl (gT rfl rfl rfl ?_))))))))))))))))))))))))))))))))))))))))
 refine gQ (zbQ (zbL rfl rfl) (by exact decide_eq_true hC1)) (gQ (za5 rfl rfl rfl) (gM rfl (gT rfl rfl rfl (gM rfl (gT rfl rfl rfl (gQ (zaV (Tryz.underlying45) rfl) (gT rfl rfl rfl (gQ (zbQ (zbL rfl rfl) (by rw [hC2]; rfl)) (gQ (za5 rfl rfl rfl) (gM rfl (gT rfl rfl rfl (gM rfl (gT rfl rfl rfl (gQ (zaV (Tryz.underlying60) rfl) (gT rfl rfl rfl (gQ (zbQ (zbL rfl rfl) (by rw [hKl]; rfl)) (gQ (za5 rfl rfl rfl) (gM rfl (gT rfl rfl rfl (gM rfl (gT rfl rfl rfl (gQ (zbQ (zbL rfl rfl) (by exact decide_eq_true hS1)) (gQ (za5 rfl rfl rfl) (gM rfl (gT rfl rfl rfl (gM rfl (gT rfl rfl rfl (gQ (zaV (Tryz.underlying49) rfl) (gT rfl rfl rfl (gQ (zbQ (zbL rfl rfl) (by rw [hS2]; rfl)) (gQ (za5 rfl rfl rfl) (gM rfl (gT rfl rfl rfl (gM rfl (gT rfl rfl rfl (gQ (zaV (Tryz.underlying49) rfl) (gT rfl rfl rfl (gQ (zbQ (zbL rfl rfl) (by rw [hS3]; rfl)) (gQ (za5 rfl rfl rfl) (gA rfl ?_))))))))))))))))))))))))))))))))))))))))
 refine gN [0] rfl (zaw (zay (zaC rfl (zau rfl)) ?_))
 rfl
end Go.Proofs.YteepmmghanbllaaGreatDoor
namespace Go.Fld
open Go Go.K Go.Stn Go.Pln
structure Trk where
 eff:Int
 l:List Crg
 there:Bool
instance:Inhabited Trk:=⟨⟨0,[],false⟩⟩
abbrev zIh (l:List Crg):List Int:=l.map (·.brd)
def lexB:List Int→List Int→Bool
 | a :: l,b :: m=>if a=b then lexB l m else decide (a < b)
 | _,_=>false
def kLt (a b:Trk):Bool:=if a.eff=b.eff then(if a.l.length=b.l.length then lexB (zIh a.l) (zIh b.l) else decide (a.l.length < b.l.length)) else decide (a.eff < b.eff)
def zIg (a b:Trk):Bool:=!b.there||kLt a b
def extT (t:Trk) (c:Crg):Trk:=⟨t.eff+c.eff,t.l++[c],true⟩
theorem zIM:∀ a:List Int,lexB a a=false
 | []=>rfl
 | x :: l=>by rw [lexB,if_pos rfl]; exact zIM l
theorem zJG:∀ {a b c:List Int},a.length=b.length→b.length=c.length→lexB a b=false→lexB b c=false→lexB a c=false
 | [],_,_,_,_,_,_=>by unfold lexB; rfl
 | x :: a,[],_,h,_,_,_=>by cases h
 | x :: a,y :: b,[],_,h,_,_=>by cases h
 | x :: a,y :: b,z :: c,h1,h2,h3,h4=>by
  rw [lexB] at h3 h4 ⊢
  simp only [lC,Nat.add_right_cancel_iff] at h1 h2
  by_cases e1:x=y
  ·by_cases e2:y=z
   ·rw [if_pos e1] at h3; rw [if_pos e2] at h4; rw [if_pos (e1.trans e2)]
    exact zJG h1 h2 h3 h4
   ·rw [if_neg e2] at h4; subst e1; rw [if_neg e2]; exact h4
  ·rw [if_neg e1] at h3
   have h3:=oD h3
   by_cases e2:y=z
   ·subst e2; rw [if_neg e1]; exact decide_eq_false h3
   ·rw [if_neg e2] at h4
    have h4:=oD h4
    rw [if_neg (by omega)]; exact decide_eq_false (by omega)
theorem zLT:∀ {a b:List Int},a.length=b.length→lexB a b=false→lexB b a=false→a=b
 | [],[],_,_,_=>rfl
 | [],_ :: _,h,_,_=>by cases h
 | _ :: _,[],h,_,_=>by cases h
 | x :: a,y :: b,h,h1,h2=>by
  rw [lexB] at h1 h2
  simp only [lC,Nat.add_right_cancel_iff] at h
  by_cases e:x=y
  ·rw [if_pos e] at h1; rw [if_pos e.symm] at h2; rw [e,zLT h h1 h2]
  ·rw [if_neg e] at h1; rw [if_neg (fun k=>e k.symm)] at h2
   have:=oD h1; have:=oD h2; omega
theorem zIT:∀ {a b:List Int} {x:Int},a.length=b.length→lexB (a++[x]) (b++[x])=lexB a b
 | [],[],x,_=>by simp [lexB]
 | [],_ :: _,_,h=>by cases h
 | _ :: _,[],_,h=>by cases h
 | u :: a,v :: b,x,h=>by
  simp only [lC,Nat.add_right_cancel_iff] at h
  show lexB (u :: (a++[x])) (v :: (b++[x]))=_
  rw [lexB,lexB,zIT h]
theorem zIS:∀ {a b:List Int},lexB a b=true→lexB b a=false
 | [],_,h=>by unfold lexB at h; cases h
 | _ :: _,[],h=>by unfold lexB at h; cases h
 | x :: a,y :: b,h=>by
  rw [lexB] at h ⊢
  by_cases e:x=y
  ·rw [if_pos e] at h; rw [if_pos e.symm]; exact zIS h
  ·rw [if_neg e] at h; rw [if_neg (fun k=>e k.symm)]
   have:=oT h; exact decide_eq_false (by omega)
theorem zId {l:List Crg}:(zIh l).length=l.length:=lM ..
theorem zKf (a:Trk):kLt a a=false:=by unfold kLt; rw [if_pos rfl,if_pos rfl]; exact zIM _
theorem k_nt {a b c:Trk} (h1:kLt a b=false) (h2:kLt b c=false):kLt a c=false:=by
 unfold kLt at *
 by_cases e1:a.eff=b.eff
 ·by_cases e2:b.eff=c.eff
  ·rw [if_pos e1] at h1; rw [if_pos e2] at h2; rw [if_pos (e1.trans e2)]
   by_cases l1:a.l.length=b.l.length
   ·by_cases l2:b.l.length=c.l.length
    ·rw [if_pos l1] at h1; rw [if_pos l2] at h2; rw [if_pos (l1.trans l2)]
     exact zJG (by simpa [zId] using l1) (by simpa [zId] using l2) h1 h2
    ·rw [if_neg l2] at h2; rw [if_neg (by omega)]; have:=oD h2; exact decide_eq_false (by omega)
   ·rw [if_neg l1] at h1
    have h1:=oD h1
    by_cases l2:b.l.length=c.l.length
    ·rw [if_neg (by omega)]; exact decide_eq_false (by omega)
    ·rw [if_neg l2] at h2; have:=oD h2; rw [if_neg (by omega)]; exact decide_eq_false (by omega)
  ·rw [if_neg e2] at h2; have:=oD h2; rw [if_neg (by omega)]; exact decide_eq_false (by omega)
 ·rw [if_neg e1] at h1
  have h1:=oD h1
  by_cases e2:b.eff=c.eff
  ·rw [if_neg (by omega)]; exact decide_eq_false (by omega)
  ·rw [if_neg e2] at h2; have:=oD h2; rw [if_neg (by omega)]; exact decide_eq_false (by omega)
theorem zJ1 {a b:Trk} (h:kLt a b=true):kLt b a=false:=by
 unfold kLt at *
 by_cases e1:a.eff=b.eff
 ·rw [if_pos e1] at h; rw [if_pos e1.symm]
  by_cases l1:a.l.length=b.l.length
  ·rw [if_pos l1] at h; rw [if_pos l1.symm]; exact zIS h
  ·rw [if_neg l1] at h; rw [if_neg (fun k=>l1 k.symm)]; have:=oT h; exact decide_eq_false (by omega)
 ·rw [if_neg e1] at h; rw [if_neg (fun k=>e1 k.symm)]; have:=oT h; exact decide_eq_false (by omega)
theorem k_eq {a b:Trk} (h1:kLt a b=false) (h2:kLt b a=false):a.eff=b.eff∧zIh a.l=zIh b.l:=by
 unfold kLt at *
 by_cases e1:a.eff=b.eff
 ·rw [if_pos e1] at h1; rw [if_pos e1.symm] at h2
  by_cases l1:a.l.length=b.l.length
  ·rw [if_pos l1] at h1; rw [if_pos l1.symm] at h2
   exact⟨e1,zLT (by simpa [zId] using l1) h1 h2⟩
  ·rw [if_neg l1] at h1; rw [if_neg (fun k=>l1 k.symm)] at h2
   have:=oD h1; have:=oD h2; omega
 ·rw [if_neg e1] at h1; rw [if_neg (fun k=>e1 k.symm)] at h2
  have:=oD h1; have:=oD h2; omega
theorem zKe {a b:Trk} {c:Crg} (h:kLt a b=false):kLt (extT a c) (extT b c)=false:=by
 unfold kLt extT at *
 simp only [lA,lC,lN]
 by_cases e1:a.eff=b.eff
 ·rw [if_pos e1] at h; rw [if_pos (by omega)]
  by_cases l1:a.l.length=b.l.length
  ·rw [if_pos l1] at h; rw [if_pos (by omega)]
   simp only [zIh,List.map_append,List.map_cons,List.map_nil]
   rw [zIT (by simpa using l1)]; exact h
  ·rw [if_neg l1] at h; rw [if_neg (by omega)]; have:=oD h; exact decide_eq_false (by omega)
 ·rw [if_neg e1] at h; rw [if_neg (by omega)]; have:=oD h; exact decide_eq_false (by omega)
theorem zKd {a b:Trk} (h:kLt a b=false):b.eff≤a.eff:=by
 unfold kLt at h
 by_cases e:a.eff=b.eff
 ·omega
 ·rw [if_neg e] at h; have:=oD h; omega
theorem zJ2 {a b:Trk} (h:b.eff < a.eff):kLt a b=false:=by
 unfold kLt; rw [if_neg (by omega)]; exact decide_eq_false (by omega)
theorem zJ7 {a b:Trk} (h:zIg a b=false):b.there=true∧kLt a b=false:=by
 unfold zIg at h
 cases hb:b.there <;> rw [hb] at h
 ·cases h
 ·exact⟨rfl,h⟩
theorem zLA {a b:Trk} (h1:b.there=true) (h2:kLt a b=false):zIg a b=false:=by unfold zIg; rw [h1,h2]; rfl
def effL (l:List Crg):Int:=l.foldr (fun c n=>c.eff+n) 0
theorem zIJ:∀ {l m:List Crg},effL (l++m)=effL l+effL m
 | [],m=>by show effL m=0+effL m; omega
 | c :: l,m=>by show c.eff+effL (l++m)=(c.eff+effL l)+effL m; rw [zIJ]; omega
theorem zI3:∀ {l m:List Crg} {x y z:Int},Chn x l y→Chn y m z→Chn x (l++m) z
 | [],m,x,y,z,h,k=>by have h:x=y:=h; subst h; exact k
 | c :: l,m,x,y,z,h,k=>⟨h.1,zI3 h.2 k⟩
theorem zIC:∀ {l m:List Crg} {x z:Int},Chn x (l++m) z→∃ y,Chn x l y∧Chn y m z
 | [],m,x,z,h=>⟨x,rfl,h⟩
 | c :: l,m,x,z,h=>by obtain⟨y,h1,h2⟩:=zIC (l:=l) h.2; exact⟨y,⟨h.1,h1⟩,h2⟩
def zIm (W:List (Crg×Crg)) (may:Crg→Bool) (c:Crg):Prop:=c∈allC W∧-1≤c.way∧may c=true
structure Wk (W:List (Crg×Crg)) (may:Crg→Bool) (x:Int) (l:List Crg) (y:Int):Prop where
 chn:Chn x l y
 use:∀ c∈l,zIm W may c
theorem Wk.snoc {W:List (Crg×Crg)} {may:Crg→Bool} {x:Int} {l:List Crg} {c:Crg} (h:Wk W may x l c.frm) (hc:zIm W may c):Wk W may x (l++[c]) c.to:=
 ⟨zI3 h.chn ⟨rfl,rfl⟩,fun d hd=>by
  rcases List.mem_append.1 hd with h1 | h1
  ·exact h.use d h1
  ·rw [List.mem_singleton.1 h1]; exact hc⟩
structure Best (W:List (Crg×Crg)) (may:Crg→Bool) (n:Nat) (frm:Int) (T:List Trk):Prop where
 len:T.length=n
 st:T.getD frm.toNat default=⟨0,[],true⟩
 wk:∀ i:Nat,i < n→(T.getD i default).there=true→Wk W may frm (T.getD i default).l i∧(T.getD i default).eff=effL (T.getD i default).l
 no:∀ i:Nat,i < n→(T.getD i default).there=false→T.getD i default=default
 fix:∀ c,zIm W may c→(T.getD c.frm.toNat default).there=true→zIg (extT (T.getD c.frm.toNat default) c) (T.getD c.to.toNat default)=false
section
variable {W:List (Crg×Crg)} {may:Crg→Bool} {n:Nat} {frm:Int} {T U:List Trk} {bs:List Bdr}
theorem zJq (hb:Best W may n frm T):∀ (l:List Crg) {y:Int},Wk W may frm l y→(T.getD y.toNat default).there=true∧kLt ⟨effL l,l,true⟩ (T.getD y.toNat default)=false:=by
 intro l
 have key:∀ (m:Nat) (l:List Crg),l.length=m→∀ {y:Int},Wk W may frm l y→(T.getD y.toNat default).there=true∧kLt ⟨effL l,l,true⟩ (T.getD y.toNat default)=false:=by
  intro m
  induction m with
  | zero=>
   intro l hl y h
   obtain rfl:=List.eq_nil_of_length_eq_zero hl
   have h1:frm=y:=h.chn
   subst h1
   rw [hb.st]
   exact⟨rfl,zKf _⟩
  | succ m ih=>
   intro l hl y h
   have hne:l≠[]:=by intro h0; rw [h0] at hl; cases hl
   obtain⟨p,c,rfl⟩:∃ p c,l=p++[c]:=⟨l.dropLast,l.getLast hne,(List.dropLast_concat_getLast hne).symm⟩
   obtain⟨z,h1,h2⟩:=zIC h.chn
   have hz:c.frm=z:=h2.1
   have hy:c.to=y:=h2.2
   subst hz; subst hy
   have hp:Wk W may frm p c.frm:=⟨h1,fun d hd=>h.use d (List.mem_append_left _ hd)⟩
   obtain⟨i1,i2⟩:=ih p (by rw [lA] at hl; simpa using hl) hp
   obtain⟨f1,f2⟩:=zJ7 (hb.fix c (h.use c (List.mem_append_right _ (List.mem_singleton.2 rfl))) i1)
   refine⟨f1,?_⟩
   have h3:=k_nt (zKe (c:=c) i2) f2
   have e:extT ⟨effL p,p,true⟩ c=⟨effL (p++[c]),p++[c],true⟩:=by
    unfold extT; rw [zIJ]; simp only [effL,List.foldr]; rw [Int.add_zero]
   rwa [e] at h3
 intro y h
 exact key l.length l rfl h
theorem zLJ (hp:zyI W bs) {c d:Crg} (hc:c∈allC W) (hd:d∈allC W) (h1:c.brd=d.brd) (h2:c.frm=d.frm):c=d:=by
 obtain⟨i,hi,e1⟩:=zFE hc
 obtain⟨j,hj,e2⟩:=zFE hd
 have a1:=hp.fst i hi; have a2:=hp.snd i hi; have b1:=hp.fst j hj; have b2:=hp.snd j hj
 have hij:i=j:=by
  rcases e1 with e1 | e1 <;> rcases e2 with e2 | e2 <;> rw [e1,e2] at h1 <;> omega
 subst hij
 have hn:=hp.ne i hi
 rcases e1 with e1 | e1 <;> rcases e2 with e2 | e2
 ·rw [e1,e2]
 ·exfalso; rw [e1,e2] at h2; omega
 ·exfalso; rw [e1,e2] at h2; omega
 ·rw [e1,e2]
theorem zLE (hp:zyI W bs):∀ {l m:List Crg} {x y z:Int},Wk W may x l y→Wk W may x m z→zIh l=zIh m→l=m
 | [],[],_,_,_,_,_,_=>rfl
 | [],_ :: _,_,_,_,_,_,h=>by cases h
 | _ :: _,[],_,_,_,_,_,h=>by cases h
 | c :: l,d :: m,x,y,z,h1,h2,h=>by
  simp only [zIh,List.map_cons,List.cons.injEq] at h
  have e:c=d:=zLJ hp (h1.use c (mS ..)).1 (h2.use d (mS ..)).1 h.1 (h1.chn.1.trans h2.chn.1.symm)
  subst e
  rw [zLE hp (l:=l) (m:=m) ⟨h1.chn.2,fun e he=>h1.use e (mM _ he)⟩ ⟨h2.chn.2,fun e he=>h2.use e (mM _ he)⟩ h.2]
theorem zLl {a b:Trk} (h1:a.eff=b.eff) (h2:a.l=b.l) (h3:a.there=b.there):a=b:=by
 cases a; cases b; simp only at h1 h2 h3; subst h1; subst h2; subst h3; rfl
theorem zJs {α:Type} [Inhabited α] {a b:List α} (h:a.length=b.length) (k:∀ i:Nat,i < a.length→a.getD i default=b.getD i default):a=b:=by
 refine List.ext_getElem h fun i h1 h2=>?_
 have:=k i h1
 rwa [gE,gE,eG h1,eG h2] at this
theorem zLG (hp:zyI W bs) (h:Best W may n frm T) (k:Best W may n frm U):T=U:=by
 refine zJs (h.len.trans k.len.symm) fun i hi=>?_
 rw [h.len] at hi
 cases e1:(T.getD i default).there with
 | true=>
  obtain⟨a1,a2⟩:=h.wk i hi e1
  obtain⟨b1,b2⟩:=zJq k _ a1
  rw [Int.toNat_natCast] at b1 b2
  obtain⟨c1,c2⟩:=k.wk i hi b1
  obtain⟨_,d2⟩:=zJq h _ c1
  rw [Int.toNat_natCast] at d2
  have t1:(⟨effL (T.getD i default).l,(T.getD i default).l,true⟩:Trk)=T.getD i default:=zLl a2.symm rfl e1.symm
  have t2:(⟨effL (U.getD i default).l,(U.getD i default).l,true⟩:Trk)=U.getD i default:=zLl c2.symm rfl b1.symm
  rw [t1] at b2; rw [t2] at d2
  obtain⟨g1,g2⟩:=k_eq b2 d2
  exact zLl g1 (zLE hp a1 c1 g2) (e1.trans b1.symm)
 | false=>
  cases e2:(U.getD i default).there with
  | true=>
   obtain⟨c1,_⟩:=k.wk i hi e2
   have:=(zJq h _ c1).1
   rw [Int.toNat_natCast,e1] at this
   cases this
  | false=>rw [h.no i hi e1,k.no i hi e2]
end
def cntT (T:List Trk):Nat:=T.countP (·.there)
theorem zI4:∀ {T:List Trk} {i:Nat} {v:Trk},i < T.length→v.there=true→cntT (T.set i v)=cntT T+if (T.getD i default).there=true then 0 else 1
 | [],_,_,h,_=>by cases h
 | t :: T,0,v,_,hv=>by
  show List.countP _ (v :: T)=List.countP _ (t :: T)+if t.there=true then 0 else 1
  rw [List.countP_cons,List.countP_cons,if_pos hv]
  by_cases h:t.there=true
  ·rw [if_pos h,if_pos h]
  ·rw [if_neg h,if_neg h]
 | t :: T,i+1,v,h,hv=>by
  have ih:=zI4 (T:=T) (i:=i) (v:=v) (by simpa using h) hv
  show List.countP _ (t :: T.set i v)=List.countP _ (t :: T)+if (T.getD i default).there=true then 0 else 1
  unfold cntT at ih
  rw [List.countP_cons,List.countP_cons,ih]
  omega
theorem zJY {T:List Trk}:cntT T≤T.length:=List.countP_le_length
theorem zIq {T:List Trk} {i j:Nat} {v:Trk} (h:i < T.length):(T.set i v).getD j default=if j=i then v else T.getD j default:=by
 rw [gE,List.getElem?_set,gE]
 by_cases hj:i=j
 ·subst hj; rw [if_pos rfl,if_pos h,if_pos rfl]; simp
 ·rw [if_neg hj,if_neg (fun h=>hj h.symm)]
def bigN:Nat:=300000
def bigP:Nat:=81 ^ bigN
def valB:List Int→Nat
 | []=>0
 | a :: l=>a.toNat*81 ^ l.length+valB l
theorem zJo:∀ {l:List Int},(∀ a∈l,0≤a∧a < 81)→valB l < 81 ^ l.length
 | [],_=>by show 0 < 81 ^ 0; decide
 | a :: l,h=>by
  have ih:=zJo (l:=l) fun b hb=>h b (mM _ hb)
  have ha:=h a (mS ..)
  show a.toNat*81 ^ l.length+valB l < 81 ^ (l.length+1)
  rw [Nat.pow_succ]
  have:a.toNat*81 ^ l.length≤80*81 ^ l.length:=Nat.mul_le_mul_right _ (by omega)
  generalize 81 ^ l.length=p at *
  omega
theorem zIO {a a' v v' P:Nat} (h:a < a') (hv:v < P):a*P+v < a' * P+v':=by
 have:(a+1)*P≤a' * P:=Nat.mul_le_mul_right _ h
 rw [Nat.add_mul,Nat.one_mul] at this
 omega
theorem zJn:∀ {a b:List Int},a.length=b.length→(∀ x∈a,0≤x∧x < 81)→(∀ x∈b,0≤x∧x < 81)→lexB a b=true→valB a < valB b
 | [],_,_,_,_,h=>by unfold lexB at h; cases h
 | _ :: _,[],_,_,_,h=>by unfold lexB at h; cases h
 | x :: a,y :: b,hl,h1,h2,h=>by
  simp only [lC,Nat.add_right_cancel_iff] at hl
  have hx:=h1 x (mS ..)
  have hy:=h2 y (mS ..)
  rw [lexB] at h
  show x.toNat*81 ^ a.length+valB a < y.toNat*81 ^ b.length+valB b
  rw [←hl]
  by_cases e:x=y
  ·rw [if_pos e] at h; subst e
   have:=zJn hl (fun z hz=>h1 z (mM _ hz)) (fun z hz=>h2 z (mM _ hz)) h
   omega
  ·rw [if_neg e] at h
   have:=oT h
   exact zIO (by omega) (zJo fun z hz=>h1 z (mM _ hz))
def zIn (t:Trk):Nat:=if t.there=true then(t.eff.toNat*300000+t.l.length)*bigP+valB (zIh t.l) else 300000*300000*bigP
def zIj:List Trk→Nat
 | []=>0
 | t :: T=>zIn t+zIj T
theorem zIU:∀ {T:List Trk} {i:Nat} {v:Trk},i < T.length→zIn v < zIn (T.getD i default)→zIj (T.set i v) < zIj T
 | [],_,_,h,_=>by cases h
 | t :: T,0,v,_,hv=>by
  have hv:zIn v < zIn t:=hv
  show zIn v+zIj T < zIn t+zIj T
  omega
 | t :: T,i+1,v,h,hv=>by
  have ih:=zIU (T:=T) (i:=i) (v:=v) (by simpa using h) hv
  show zIn t+zIj (T.set i v) < zIn t+zIj T
  omega
structure Fine (t:Trk):Prop where
 e0:0≤t.eff
 e1:t.eff≤280040
 len:(t.l.length:Int)≤t.eff
 brd:∀ c∈t.l,0≤c.brd∧c.brd < 81
theorem Fine.val {t:Trk} (h:Fine t):valB (zIh t.l) < bigP:=by
 have h1:valB (zIh t.l) < 81 ^ (zIh t.l).length:=zJo fun a ha=>by
  obtain⟨c,hc,rfl⟩:=List.mem_map.1 ha
  exact h.brd c hc
 refine lL h1 ?_
 unfold bigP
 refine Nat.pow_le_pow_right (by decide) ?_
 have:=h.e1; have:=h.len; rw [zId]; show t.l.length≤300000; omega
theorem zJT {a b:Trk} (ha:Fine a) (hta:a.there=true) (hb:b.there=true→Fine b) (h:zIg a b=true):zIn a < zIn b:=by
 have a0:=ha.e0; have a1:=ha.e1; have a2:=ha.len; have av:=ha.val
 unfold zIn
 rw [if_pos hta]
 cases e:b.there with
 | false=>
  rw [if_neg (by decide)]
  have:=zIO (a:=a.eff.toNat*300000+a.l.length) (a':=300000*300000) (v:=valB (zIh a.l)) (v':=0) (P:=bigP) (by omega) av
  omega
 | true=>
  rw [if_pos rfl]
  have hbf:=hb e
  have b0:=hbf.e0; have b2:=hbf.len; have b1:=hbf.e1
  have hk:kLt a b=true:=by unfold zIg at h; rw [e] at h; exact h
  unfold kLt at hk
  by_cases e1:a.eff=b.eff
  ·rw [if_pos e1] at hk
   by_cases l1:a.l.length=b.l.length
   ·rw [if_pos l1] at hk
    have:=zJn (by simpa using l1) (fun x hx=>by obtain⟨c,hc,rfl⟩:=List.mem_map.1 hx; exact ha.brd c hc) (fun x hx=>by obtain⟨c,hc,rfl⟩:=List.mem_map.1 hx; exact hbf.brd c hc) hk
    rw [e1,l1]; omega
   ·rw [if_neg l1] at hk
    have:=oT hk
    exact zIO (by rw [e1]; omega) av
  ·rw [if_neg e1] at hk
   have:=oT hk
   exact zIO (by omega) av
def zJJ (W:List (Crg×Crg)):Prop:=∀ c∈allC W,-1≤c.way→1≤c.eff∧c.eff≤7001
def zIB (W:List (Crg×Crg)) (n:Nat):Prop:=∀ c∈allC W,(0≤c.frm∧c.frm < n)∧0≤c.to∧c.to < n
structure Imp (W:List (Crg×Crg)) (may:Crg→Bool) (n:Nat) (frm:Int) (T:List Trk):Prop where
 len:T.length=n
 st:T.getD frm.toNat default=⟨0,[],true⟩
 wk:∀ i:Nat,i < n→(T.getD i default).there=true→Wk W may frm (T.getD i default).l i∧(T.getD i default).eff=effL (T.getD i default).l
 no:∀ i:Nat,i < n→(T.getD i default).there=false→T.getD i default=default
 bnd:∀ i:Nat,i < n→(T.getD i default).there=true→(T.getD i default).eff≤7001*cntT T∧((T.getD i default).l.length:Int)≤(T.getD i default).eff
section
variable {W:List (Crg×Crg)} {may:Crg→Bool} {n:Nat} {frm:Int} {T:List Trk} {bs:List Bdr}
theorem zIo (hp:zyI W bs) (hbs:bs.length≤80) (h:Imp W may n frm T) (hn:n≤40) {i:Nat} (hi:i < n) (ht:(T.getD i default).there=true):Fine (T.getD i default):=by
 obtain⟨b1,b2⟩:=h.bnd i hi ht
 have hc:cntT T≤n:=by rw [←h.len]; exact zJY
 refine⟨by omega,by omega,b2,fun c hc=>?_⟩
 obtain⟨j,hj,e⟩:=zFE ((h.wk i hi ht).1.use c hc).1
 have:=hp.len; have:=hp.fst j hj; have:=hp.snd j hj
 rcases e with e | e <;> rw [e] <;> omega
theorem zJc (h0:0≤frm) (h1:frm < n):Imp W may n frm ((List.replicate n default).set frm.toNat ⟨0,[],true⟩):=by
 have hf:frm.toNat < (List.replicate n (default:Trk)).length:=by rw [List.length_replicate]; omega
 have hd:∀ i,(List.replicate n (default:Trk)).getD i default=default:=fun i=>by
  rw [gE]
  cases h:(List.replicate n (default:Trk))[i]? with
  | none=>rfl
  | some v=>exact(List.mem_replicate.1 (List.mem_of_getElem? h)).2
 refine⟨by rw [List.length_set,List.length_replicate],by rw [zIq hf,if_pos rfl],fun i hi ht=>?_,fun i hi ht=>?_,fun i hi ht=>?_⟩
 ·rw [zIq hf] at ht ⊢
  by_cases e:i=frm.toNat
  ·rw [if_pos e]; exact⟨⟨show frm=i by omega,fun _ h=>by cases h⟩,rfl⟩
  ·rw [if_neg e,hd] at ht; cases ht
 ·rw [zIq hf] at ht ⊢
  by_cases e:i=frm.toNat
  ·rw [if_pos e] at ht; cases ht
  ·rw [if_neg e,hd]
 ·rw [zIq hf] at ht ⊢
  by_cases e:i=frm.toNat
  ·rw [if_pos e]; exact⟨by show(0:Int)≤_; omega,by show((0:Nat):Int)≤0; decide⟩
  ·rw [if_neg e,hd] at ht; cases ht
theorem zJw (hp:zyI W bs) (hbs:bs.length≤80) (he:zJJ W) (hw:zIB W n) (hn:n≤40) (h0:0≤frm) (h:Imp W may n frm T) {c:Crg} (hc:zIm W may c) (ht:(T.getD c.frm.toNat default).there=true)
  (hl:zIg (extT (T.getD c.frm.toNat default) c) (T.getD c.to.toNat default)=true):Imp W may n frm (T.set c.to.toNat (extT (T.getD c.frm.toNat default) c))∧zIj (T.set c.to.toNat (extT (T.getD c.frm.toNat default) c)) < zIj T:=by
 obtain⟨⟨c0,c1⟩,c2,c3⟩:=hw c hc.1
 obtain⟨e0,e1⟩:=he c hc.1 hc.2.1
 have hfi:c.frm.toNat < n:=by omega
 have hti:c.to.toNat < T.length:=by rw [h.len]; omega
 have hff:=zIo hp hbs h hn hfi ht
 have f0:=hff.e0
 obtain⟨hb1,hb2⟩:=h.bnd _ hfi ht
 obtain⟨hw1,hw2⟩:=h.wk _ hfi ht
 rw [tN c0] at hw1
 have hne:c.to≠frm:=by
  intro e
  rw [e,h.st] at hl
  have:kLt (extT (T.getD c.frm.toNat default) c) ⟨0,[],true⟩=false:=zJ2 (by show(0:Int) < _+_; omega)
  rw [show zIg (extT (T.getD c.frm.toNat default) c) ⟨0,[],true⟩=kLt (extT (T.getD c.frm.toNat default) c) ⟨0,[],true⟩ from rfl,this] at hl
  cases hl
 have hlow:(T.getD c.to.toNat default).there=true→(T.getD c.frm.toNat default).eff+c.eff≤(T.getD c.to.toNat default).eff:=fun e=>by
  unfold zIg at hl
  rw [e] at hl
  have:=zKd (zJ1 (a:=extT (T.getD c.frm.toNat default) c) (b:=T.getD c.to.toNat default) hl)
  exact this
 have hcs:=zI4 (T:=T) (v:=extT (T.getD c.frm.toNat default) c) hti rfl
 generalize hu:extT (T.getD c.frm.toNat default) c=u at *
 have ue:u.eff=(T.getD c.frm.toNat default).eff+c.eff:=by rw [←hu]; rfl
 have ul:u.l=(T.getD c.frm.toNat default).l++[c]:=by rw [←hu]; rfl
 have ut:u.there=true:=by rw [←hu]; rfl
 have hi:Imp W may n frm (T.set c.to.toNat u):=by
  refine⟨by rw [List.length_set]; exact h.len,by rw [zIq hti,if_neg (by omega)]; exact h.st,fun i hi hx=>?_,fun i hi hx=>?_,fun i hi hx=>?_⟩
  ·rw [zIq hti] at hx ⊢
   by_cases e:i=c.to.toNat
   ·rw [if_pos e,ul,ue]
    rw [show(i:Int)=c.to from by omega]
    exact⟨hw1.snoc hc,by rw [zIJ,hw2]; simp only [effL,List.foldr]; omega⟩
   ·rw [if_neg e] at hx ⊢; exact h.wk i hi hx
  ·rw [zIq hti] at hx ⊢
   by_cases e:i=c.to.toNat
   ·rw [if_pos e,ut] at hx; cases hx
   ·rw [if_neg e] at hx ⊢; exact h.no i hi hx
  ·rw [zIq hti] at hx ⊢
   by_cases e:i=c.to.toNat
   ·rw [if_pos e,ul,ue,hcs,lA]
    refine⟨?_,by simp only [lC,lN]; omega⟩
    by_cases k:(T.getD c.to.toNat default).there=true
    ·have:=hlow k
     have:=(h.bnd c.to.toNat (by omega) k).1
     rw [if_pos k]; omega
    ·rw [if_neg k]; omega
   ·rw [if_neg e] at hx ⊢
    obtain⟨x1,x2⟩:=h.bnd i hi hx
    refine⟨?_,x2⟩
    rw [hcs]
    omega
 refine⟨hi,zIU hti ?_⟩
 have hcu:c.to.toNat < n:=by omega
 have hxu:=zIo hp hbs hi hn hcu (by rw [zIq hti,if_pos rfl]; exact ut)
 rw [zIq hti,if_pos rfl] at hxu
 exact zJT hxu ut (fun e=>zIo hp hbs h hn hcu e) hl
theorem zJv (h:Imp W may n frm T) (hf:∀ c,zIm W may c→(T.getD c.frm.toNat default).there=true→zIg (extT (T.getD c.frm.toNat default) c) (T.getD c.to.toNat default)=false):Best W may n frm T:=
 ⟨h.len,h.st,h.wk,h.no,hf⟩
end
section
variable {s:Sht} {shut:Bool} {g h:Int} {l:List Opn} {x:Anm}
theorem zDp:∀ n,(acrN s shut g h l x n).some=true→mayR s shut g h l x (acrN s shut g h l x n).way=((acrN s shut g h l x n).eff,true)
 | 0,hs=>by cases hs
 | n+1,hs=>by
  have ih:=zDp n
  unfold acrN at hs ⊢
  simp only at hs ⊢
  split
  ·rename_i hc
   simp only [aT] at hc
   exact Prod.ext rfl hc.1
  ·rename_i hc
   rw [if_neg hc] at hs
   exact ih hs
theorem zLu:∀ (n k:Nat),k < n→(mayR s shut g h l x (wayN l k)).2=true→(acrN s shut g h l x n).some=true∧(acrN s shut g h l x n).eff≤(mayR s shut g h l x (wayN l k)).1
 | 0,k,hk,_=>by omega
 | n+1,k,hk,hm=>by
  have ih:=zLu n k
  unfold acrN
  simp only
  by_cases e:k=n
  ·subst e
   split
   ·exact⟨rfl,Int.le_refl _⟩
   ·rename_i hc
    simp only [aT,hm,true_and,Bool.or_eq_true,nT,dT,not_or,Bool.not_eq_false] at hc
    exact⟨hc.1,by omega⟩
  ·obtain⟨i1,i2⟩:=ih (by omega) hm
   split
   ·rename_i hc
    simp only [aT,Bool.or_eq_true,nT,i1,dT,Bool.true_eq_false,false_or] at hc
    exact⟨rfl,by show(mayR s shut g h l x (wayN l n)).1≤_; omega⟩
   ·exact⟨i1,i2⟩
theorem zHM {way:Int} (hm:(mayR s shut g h l x way).2=true):∃ k,k < l.length+1∧wayN l k=way:=by
 by_cases e:way = -1
 ·exact⟨l.length,by omega,by rw [e]; exact if_pos rfl⟩
 ·by_cases e2:way < 0∨(l.length:Int)≤way
  ·rw [zCv e e2] at hm; cases hm
  ·exact⟨way.toNat,by omega,by rw [wayN,if_neg (by omega)]; omega⟩
theorem zJ8 {v:Wll} (hg:Gnd s v g h) (hl:v.opens=l) (way:Int):0≤(mayR s shut g h l x way).1∧(mayR s shut g h l x way).1≤7001∧((mayR s shut g h l x way).2=true→1≤(mayR s shut g h l x way).1):=by
 have ho:=zGy hg
 by_cases k1:way = -1
 ·rw [zFv k1]; simp only; omega
 ·by_cases k2:way < 0∨(l.length:Int)≤way
  ·rw [zCv k1 k2]; simp
  ·by_cases k3:(l.getD way.toNat default).width < x.wide
   ·rw [zCX k1 k2 k3]; simp
   ·by_cases k4:(l.getD way.toNat default).kind=4
    ·rw [zCW k1 k2 k3 k4]; exact⟨(by show(0:Int)≤1; decide),(by show(1:Int)≤7001; decide),fun _=>(by show(1:Int)≤1; decide)⟩
    ·have hfit:=hg.wf.fit (l.getD way.toNat default) (by rw [hl]; exact za0 (by omega))
     have q1:=hfit.f; have q2:=hfit.h; have q3:=hg.nums; have q4:=hg.g
     by_cases k5:(l.getD way.toNat default).kind=3
     ·rw [zBR k1 k2 k3 k4 k5]; simp only; omega
     ·rw [zCV k1 k2 k3 k4 k5]; simp only; omega
end
section
variable {S:List ShC} {V:List WlC} {cs:List ByteArray} {bs:List Bdr} {x:Anm}
theorem zJ3 (h:zym S V cs bs x=true) {i:Int} (h0:0≤i) (h1:i < bs.length) (back:Bool):∃ v:Wll,v=(zaN S V (bs.getD i.toNat default).wall).s∧Gnd (zar S V (bs.getD i.toNat default).wall).s v (gOf (bs.getD i.toNat default) back) (hOf (bs.getD i.toNat default) back):=by
 obtain⟨_,_,_,_,_,hb⟩:=zzD h
 obtain⟨a,b⟩:=zBh (hb i.toNat (by omega))
 cases back
 ·exact⟨_,rfl,a⟩
 ·exact⟨_,rfl,b⟩
theorem zJS (h:zym S V cs bs x=true) {i:Int} (h0:0≤i) (h1:i < bs.length) (back:Bool) (way:Int):0≤(mayB S V x (bs.getD i.toNat default) back way).1∧(mayB S V x (bs.getD i.toNat default) back way).1≤7001∧((mayB S V x (bs.getD i.toNat default) back way).2=true→1≤(mayB S V x (bs.getD i.toNat default) back way).1):=by
 obtain⟨v,e,hg⟩:=zJ3 h h0 h1 back
 exact zJ8 hg (by rw [e]) way
theorem zJX (h:zym S V cs bs x=true) {i:Int} (h0:0≤i) (h1:i < bs.length) (back:Bool) (hw:-1≤(wayI S V bs x i back).way):mayB S V x (bs.getD i.toNat default) back (wayI S V bs x i back).way=((wayI S V bs x i back).eff,true):=by
 have ha:=zFB h h0 h1 back
 unfold zAN at ha
 by_cases hs:(acrB S V x (bs.getD i.toNat default) back ((zaN S V (bs.getD i.toNat default).wall).s.opens.length+1)).some=true
 ·rw [if_pos hs] at ha
  have:=zDp _ hs
  simp only [Prod.mk.injEq] at ha
  rw [←ha.1,←ha.2]; exact this
 ·rw [if_neg hs] at ha
  simp only [Prod.mk.injEq] at ha
  omega
theorem zMe (h:zym S V cs bs x=true) {i:Int} (h0:0≤i) (h1:i < bs.length) (back:Bool) {way:Int} (hm:(mayB S V x (bs.getD i.toNat default) back way).2=true):-1≤(wayI S V bs x i back).way∧(wayI S V bs x i back).eff≤(mayB S V x (bs.getD i.toNat default) back way).1:=by
 obtain⟨k,hk,e⟩:=zHM hm
 have ha:=zFB h h0 h1 back
 have hm2:=hm
 unfold mayB at hm2
 rw [←e] at hm2
 obtain⟨l1,l2⟩:=zLu _ k hk hm2
 unfold zAN at ha
 have l1':(acrB S V x (bs.getD i.toNat default) back ((zaN S V (bs.getD i.toNat default).wall).s.opens.length+1)).some=true:=l1
 rw [if_pos l1'] at ha
 simp only [Prod.mk.injEq] at ha
 rw [e] at l2
 have l2:(acrB S V x (bs.getD i.toNat default) back ((zaN S V (bs.getD i.toNat default).wall).s.opens.length+1)).eff≤(mayB S V x (bs.getD i.toNat default) back way).1:=l2
 have l3:=zDp _ l1
 refine⟨?_,by rw [←ha.2]; exact l2⟩
 rw [←ha.1]
 have hk2:=zHM (s:=(zar S V (bs.getD i.toNat default).wall).s) (shut:=(bs.getD i.toNat default).shut) (g:=gOf (bs.getD i.toNat default) back) (h:=hOf (bs.getD i.toNat default) back) (l:=(zaN S V (bs.getD i.toNat default).wall).s.opens) (x:=x) (way:=(acrN (zar S V (bs.getD i.toNat default).wall).s (bs.getD i.toNat default).shut (gOf (bs.getD i.toNat default) back) (hOf (bs.getD i.toNat default) back) (zaN S V (bs.getD i.toNat default).wall).s.opens x ((zaN S V (bs.getD i.toNat default).wall).s.opens.length+1)).way) (by rw [l3])
 obtain⟨q,_,hq⟩:=hk2
 show -1≤(acrN _ _ _ _ _ _ _).way
 rw [←hq]
 unfold wayN
 split <;> omega
theorem zIY {i:Nat}:fstC (zyj S V bs x) i=wayI S V bs x i false∧sndC (zyj S V bs x) i=wayI S V bs x i true:=⟨by unfold wayI; rw [Int.toNat_natCast]; rfl,by unfold wayI; rw [Int.toNat_natCast]; rfl⟩
theorem zI5 (h:zym S V cs bs x=true):zJJ (zyj S V bs x):=by
 intro c hc hw
 obtain⟨i,hi,e⟩:=zFE hc
 rw [zz5] at hi
 have key:∀ back,-1≤(wayI S V bs x i back).way→1≤(wayI S V bs x i back).eff∧(wayI S V bs x i back).eff≤7001:=fun back hb=>by
  have h1:=zJX h (i:=i) (by omega) (by omega) back hb
  have h2:=zJS h (i:=i) (by omega) (by omega) back (wayI S V bs x i back).way
  rw [h1] at h2
  exact⟨h2.2.2 rfl,h2.2.1⟩
 rcases e with e | e
 ·rw [zIY.1] at e; rw [e] at hw ⊢; exact key _ hw
 ·rw [zIY.2] at e; rw [e] at hw ⊢; exact key _ hw
theorem zIr (h:zym S V cs bs x=true):zIB (zyj S V bs x) cs.length:=by
 have hp:=zBa h
 obtain⟨_,_,_,_,_,hb⟩:=zzD h
 intro c hc
 obtain⟨i,hi,e⟩:=zFE hc
 have f1:=hp.fst i hi; have f2:=hp.snd i hi
 have hf:=zzq (hb i (by rw [zz5] at hi; exact hi))
 rcases e with e | e <;> rw [e] <;> omega
variable {frm:Int} {l:List (Int×Int)}
end
section
variable {S S2:List ShC} {V V2:List WlC} {cs:List ByteArray} {bs:List Bdr} {x:Anm} (h:S2.map (·.s)=S.map (·.s)) (h2:V2.map (·.s)=V.map (·.s))
include h h2
theorem zAq:zym S2 V2 cs bs x=zym S V cs bs x:=by
 have hb:∀ n b,zzp S2 V2 n b=zzp S V n b:=fun n b=>by unfold zzp; rw [zcK h h2]
 unfold zym zy1
 rw [zmw h h2]
 simp only [hb]
end
end Go.Fld
namespace Go.Proofs.YteepmmghanbllaaGreatDoor
open Go.K Go.Stn Go.Pln Go.Fld Go.RowKit
theorem tf33:TF Tryz.prog 33 true 9 (.agg #[.slice none 0 0,.slice none 0 0,.slice none 0 0,.slice none 0 0,.int .i64 0,.int .i64 0,.int .i64 0,.int .i64 0,.int .i64 0]):=tK
theorem en13:En Tryz.prog 13:=eK Tryz.func13
theorem en14:En Tryz.prog 14:=eK Tryz.func14
theorem en17:En Tryz.prog 17:=eK Tryz.func17
end Go.Proofs.YteepmmghanbllaaGreatDoor
namespace Go.Fld
open Go Go.K Go.Stn Go.Pln
def cmpF (a b:Int):Int:=if a < b then -1 else if b < a then 1 else 0
def cmpL:List Int→List Int→Int
 | [],[]=>0
 | [],_ :: _=>-1
 | _ :: _,[]=>1
 | a :: l,b :: m=>if cmpF a b=0 then cmpL l m else cmpF a b
def orF (l:List Int):Int:=(l.find? fun z=>!decide (z=0)).getD 0
def befT (t o:Trk):Int:=orF [cmpF t.eff o.eff,cmpF t.l.length o.l.length,cmpL (zIh t.l) (zIh o.l)]
theorem zLf {a b:Int}:cmpF a b=0↔a=b:=by unfold cmpF; split <;> (try split) <;> omega
theorem cmpF_lt {a b:Int}:cmpF a b < 0↔a < b:=by unfold cmpF; split <;> (try split) <;> omega
theorem zLq:∀ {a b:List Int},a.length=b.length→decide (cmpL a b < 0)=lexB a b
 | [],[],_=>by decide
 | [],_ :: _,h=>by cases h
 | _ :: _,[],h=>by cases h
 | x :: a,y :: b,h=>by
  simp only [lC,Nat.add_right_cancel_iff] at h
  rw [cmpL,lexB]
  by_cases e:x=y
  ·rw [if_pos (zLf.2 e),if_pos e]; exact zLq h
  ·rw [if_neg (fun k=>e (zLf.1 k)),if_neg e]; exact decide_eq_decide.2 cmpF_lt
theorem zLn (t o:Trk):decide (befT t o < 0)=kLt t o:=by
 unfold befT orF kLt
 by_cases e1:t.eff=o.eff
 ·rw [if_pos e1]
  have h1:cmpF t.eff o.eff=0:=zLf.2 e1
  by_cases e2:t.l.length=o.l.length
  ·rw [if_pos e2]
   have h2:cmpF (t.l.length:Int) (o.l.length:Int)=0:=zLf.2 (by omega)
   rw [h1,h2,←zLq (by simpa using e2)]
   generalize cmpL (zIh t.l) (zIh o.l)=c
   by_cases hc:c=0
   ·subst hc; decide
   ·simp [List.find?,hc]
  ·rw [if_neg e2]
   have h2:¬ cmpF (t.l.length:Int) (o.l.length:Int)=0:=fun k=>e2 (by have:=zLf.1 k; omega)
   rw [h1]
   simp only [List.find?,h2,decide_false,Bool.not_false,decide_true,Bool.not_true,Option.getD_some]
   exact decide_eq_decide.2 (cmpF_lt.trans (by omega))
 ·rw [if_neg e1]
  have h1:¬ cmpF t.eff o.eff=0:=fun k=>e1 (zLf.1 k)
  simp only [List.find?,h1,decide_false,Bool.not_false,Option.getD_some]
  exact decide_eq_decide.2 cmpF_lt
theorem zLc:∀ {i:Nat} {l m:List Int},i≤l.length→i≤m.length→(∀ j:Nat,j < i→l.getD j default=m.getD j default)→cmpL l m=cmpL (l.drop i) (m.drop i)
 | 0,l,m,_,_,_=>rfl
 | i+1,[],_,h,_,_=>by cases h
 | i+1,_ :: _,[],_,h,_=>by cases h
 | i+1,x :: l,y :: m,h1,h2,h=>by
  have e:x=y:=h 0 (by omega)
  rw [cmpL,if_pos (zLf.2 e)]
  exact zLc (by simpa using h1) (by simpa using h2) fun j hj=>h (j+1) (by omega)
theorem zLy {l m:List Int} {i:Int} (h0:0≤i) (h1:i < (l.length:Int)) (h2:(m.length:Int)≤i) (h3:i≤(m.length:Int)) (h:∀ j:Nat,(j:Int) < i→l.getD j default=m.getD j default):cmpL l m=1:=by
 rw [zLc (i:=i.toNat) (by omega) (by omega) (fun j hj=>h j (by omega)),List.drop_eq_getElem_cons (by omega),List.drop_eq_nil_of_le (show m.length≤i.toNat by omega)]; rfl
theorem zL0 {l m:List Int} {i:Int} (h0:0≤i) (h1:i < (l.length:Int)) (h2:i < (m.length:Int)) (h:∀ j:Nat,(j:Int) < i→l.getD j default=m.getD j default) (hc:¬ cmpF (l.getD i.toNat default) (m.getD i.toNat default)=0):cmpL l m=cmpF (l.getD i.toNat default) (m.getD i.toNat default):=by
 rw [zLc (i:=i.toNat) (by omega) (by omega) (fun j hj=>h j (by omega)),List.drop_eq_getElem_cons (by omega),List.drop_eq_getElem_cons (l:=m) (by omega),cmpL]
 rw [gE,gE,eG (by omega),eG (by omega)] at hc ⊢
 exact if_neg hc
theorem zLp {l m:List Int} (h3:l.length≤m.length) (h:∀ j:Nat,j < l.length→l.getD j default=m.getD j default):cmpL l m=if l.length < m.length then -1 else 0:=by
 rw [zLc (i:=l.length) (Nat.le_refl _) h3 h,List.drop_length]
 by_cases e:l.length < m.length
 ·rw [if_pos e,List.drop_eq_getElem_cons e]; rfl
 ·rw [if_neg e,List.drop_eq_nil_of_le (show m.length≤l.length by omega)]; rfl
theorem zL7 {l:List Int} {i:Int} (h0:0≤i) (h1:i < (l.length:Int)) (h:∀ j:Nat,(j:Int) < i→l.getD j default=0) (hc:¬ l.getD i.toNat default=0):orF l=l.getD i.toNat default:=by
 unfold orF
 have:l.find? (fun z=>!decide (z=0))=some (l.getD i.toNat default):=by
  rw [List.find?_eq_some_iff_getElem]
  refine⟨by simpa using hc,i.toNat,by omega,?_,fun j hj=>?_⟩
  ·rw [gE,eG (by omega)]; rfl
  ·have:=h j (by omega)
   rw [gE,eG (by omega)] at this
   simpa using this
 rw [this]; rfl
theorem zLL {l:List Int} (h:∀ j:Nat,j < l.length→l.getD j default=0):orF l=0:=by
 unfold orF
 have:l.find? (fun z=>!decide (z=0))=none:=by
  rw [List.find?_eq_none]
  intro z hz
  obtain⟨i,hi,rfl⟩:=List.getElem_of_mem hz
  have:=h i hi
  rw [gE,eG hi] at this
  simpa using this
 rw [this]; rfl
end Go.Fld
namespace Go.Fld
theorem zLY {l:List Crg} {i:Nat} (h:i < l.length):(zIh l).getD i default=(l.getD i default).brd:=by
 rw [gE,List.getElem?_map,gE,eG h]; rfl
end Go.Fld
namespace Go.Proofs.YteepmmghanbllaaGreatDoor
open Go.K Go.Stn Go.Pln Go.Fld Go.RowKit
theorem zLt:TF Tryz.prog 149 false 1 (.slice none 0 0):=tK
theorem zLi:FO Tryz.prog 163 0 0:=fK
theorem zLe:FO Tryz.prog 163 1 1:=fK
theorem zpl:En Tryz.prog 114:=eK Tryz.func114
theorem zw5:En Tryz.prog 115:=eK Tryz.func115
theorem zvS:En Tryz.prog 116:=eK Tryz.func116
theorem zw6:En Tryz.prog 117:=eK Tryz.func117
theorem zMg (x0_0 x1_0 x2_0:Int) (w:World):(Instr.buildSlice 45 3 #[(0,.int .i64 x0_0),(1,.int .i64 x1_0),(2,.int .i64 x2_0)]).run Tryz.prog w=.ok (.slice (some ⟨w.heap.size,0,none⟩) 3 3) (w.alloc (.cells (([x0_0,x1_0,x2_0]:List (Int)).flatMap Go.Stn.encI).toArray 3)):=by kernel_rfl
theorem zLz (n:Int) (w:World)  :
  Calls Tryz.prog 144 #[.int .i64 n] w (Pure (.bool false) w):=by
 refine zan (vs:=[_]) Tryz.func144 rfl rfl (bL rfl) (gS (gA rfl (gN [0,2] rfl (gS (gM rfl (gM rfl (gQ (zcr rfl rfl) (gA rfl (gN [2] rfl (zaw (zay (zaC rfl (zau rfl)) ?_)))))))))))
 simp
theorem zLx (m n:Int) (w:World)  :
  Calls Tryz.prog 116 #[.int .i64 m,.int .i64 n] w (Pure (.int .i64 (cmpF m n)) w):=by
 refine zan (vs:=[_,_]) Tryz.func116 rfl rfl (bL rfl) (gS (gA rfl (gN [0,1,4] rfl (gS (gM rfl (gQ (zaJ zMk rfl (fun w hw=>zLz _ w)) (gA rfl (gN [0,1,4,5] rfl (gS (gM rfl (gQ (zaJ zMk rfl (fun w hw=>zLz _ w)) (gA rfl (gN [0,1,4,5,6] rfl (zac (gS (gM rfl (gN [0,1,4,6,11] rfl (zd8 rfl (zaq (zac (gS (gM rfl (gN [0,1,4,13] rfl (zd8 rfl (zaq (zac (gS (gM rfl (gM rfl (gQ (zbw rfl rfl) (gN [0,1,4,16] rfl (zap rfl (fun hc16=>?_) (fun hc16=>?_)))))))))))))))))))))))))))))))))
 ·have hc16:=oT hc16
  refine gS (gA rfl (gN [0,1,4] rfl (zaw (zay (zaC rfl (zau rfl)) ?_))))
  unfold cmpF; rw [if_pos hc16]
 ·have hc16:=oD hc16
  refine zaq (zac (gS (gM rfl (gM rfl (gQ (zc6 rfl rfl) (gN [4,19] rfl (zap rfl (fun hc19=>?_) (fun hc19=>?_))))))))
  ·have hc19:=oT hc19
   refine gS (gA rfl (gN [4] rfl (zaw (zay (zaC rfl (zau rfl)) ?_))))
   unfold cmpF; rw [if_neg hc16,if_pos hc19]
  ·have hc19:=oD hc19
   refine zaq (gS (gA rfl (gN [4] rfl (zaw (zay (zaC rfl (zau rfl)) ?_)))))
   unfold cmpF; rw [if_neg hc16,if_neg hc19]
theorem zMq (a:Option Addr) (cap:Nat) (l:List Int) (w:World) (hl:Has w (Ints a l)) (hs:zaP l.length) :
  Calls Tryz.prog 115 #[.slice a l.length cap] w (Pure (.int .i64 (orF l)) w):=by
 refine zan (vs:=[_]) Tryz.func115 rfl rfl (bL rfl) (gS (gA rfl (gN [0,2] rfl (gS (gA rfl (gN [0,2,3] rfl (zac (gS (gM rfl (gQ (zaV (Tryz.underlying45) rfl) (gM rfl (gN [2,3,6,7,8] rfl (zas (zbf (X:=Int) (fun(i:Int)=>[(2,.int .i64 0),(3,.int .i64 0),(6,.slice a l.length cap),(7,.int .i64 (l.length:Int)),(8,.int .i64 i)]) (fun(i:Int)=>[]) (fun(i:Int)=>(0≤i∧i≤l.length∧∀ j:Nat,(j:Int) < i→l.getD j default=0)) (fun(i:Int)=>(l.length - i).toNat) 0 (sB rfl) rfl ?_ ?_))))))))))))))
 ·exact⟨by omega,by omega,fun j hj=>by omega⟩
 ·rintro i hI
  obtain⟨g0,g1,g2⟩:=hI
  refine gS (gQ (zbw rfl rfl) (gN [2,3,6,7,8,9] rfl (zac (zap rfl (fun hc9=>?_) (fun hc9=>?_)))))
  ·simp only [dT] at hc9
   refine zaq (zac (zas (gS (gQ (zaE se45 rfl rfl (fun _=>rH hl)) (gQ (zcE tf3 rfl (fun _=>rH hl) (by omega) (by omega) rfl) (gA rfl (gN [2,3,5,6,7,8] rfl (gS (gM rfl (gM rfl (gQ (zcr rfl rfl) (gN [2,3,5,6,7,8,14] rfl (zap rfl (fun hc14=>?_) (fun hc14=>?_))))))))))))))
   ·have hc14:¬ l.getD i.toNat default=0:=by simpa using hc14
    refine gS (gM rfl (gA rfl (gN [2,3,6,7,8] rfl (zaw (zay (zaC rfl (zau rfl)) ?_)))))
    rw [zL7 g0 (by omega) g2 hc14]
   ·have hc14:l.getD i.toNat default=0:=by simpa using hc14
    refine zaq (zaa (gQ (zaY rfl rfl) (gM rfl (gN [2,3,6,7,8] rfl ?_))))
    exact za1 _ (sB rfl) rfl ⟨by omega,by omega,fun j hj=>if h:(j:Int) < i then g2 j h else(by rw [show j=i.toNat from by omega]; exact hc14)⟩ (by omega)
  ·simp only [dF] at hc9
   refine za8 rfl (gS (gM rfl (gA rfl (gN [2] rfl (zaw (zay (zaC rfl (zau rfl)) ?_))))))
   rw [zLL (fun j hj=>g2 j (by omega))]
theorem zMj (a:Option Addr) (cap:Nat) (l:List Int) (b:Option Addr) (bcap:Nat) (m:List Int) (w:World) (hl:Has w (Ints a l)) (hs:zaP l.length) (hm:Has w (Ints b m)) (hs2:zaP m.length) :
  Calls Tryz.prog 117 #[.slice a l.length cap,.slice b m.length bcap] w (Pure (.int .i64 (cmpL l m)) w):=by
 refine zan (vs:=[_,_]) Tryz.func117 rfl rfl (bL rfl) (gS (gA rfl (gN [0,1,4] rfl (zac (gS (gM rfl (gQ (zaV (Tryz.underlying45) rfl) (gM rfl (gN [0,1,4,9,10,11] rfl (zas (zbf (X:=Int) (fun(i:Int)=>[(0,.slice a l.length cap),(1,.slice b m.length bcap),(4,.int .i64 0),(9,.slice a l.length cap),(10,.int .i64 (l.length:Int)),(11,.int .i64 i)]) (fun(i:Int)=>[]) (fun(i:Int)=>(0≤i∧i≤l.length∧i≤m.length∧∀ j:Nat,(j:Int) < i→l.getD j default=m.getD j default)) (fun(i:Int)=>(l.length - i).toNat) 0 (sB rfl) rfl ?_ ?_)))))))))))
 ·exact⟨by omega,by omega,by omega,fun j hj=>by omega⟩
 ·rintro i hI
  obtain⟨g0,g1,g3,g2⟩:=hI
  refine gS (gQ (zbw rfl rfl) (gN [0,1,4,9,10,11,12] rfl (zac (zap rfl (fun hc12=>?_) (fun hc12=>?_)))))
  ·simp only [dT] at hc12
   refine zaq (zac (zas (gS (gM rfl (gQ (zaE se45 rfl rfl (fun _=>rH hl)) (gQ (zcE tf3 rfl (fun _=>rH hl) (by omega) (by omega) rfl) (gA rfl (gA rfl (gN [0,1,4,5,6,9,10,11] rfl (zac (gS (gM rfl (gM rfl (gQ (zaV (Tryz.underlying45) rfl) (gQ (zfx rfl rfl) (gN [0,1,4,5,6,9,10,11,19] rfl (zap rfl (fun hc19=>?_) (fun hc19=>?_))))))))))))))))))
   ·have hc19:=oT hc19
    refine gS (gA rfl (gN [0,1,4,5,6,9,10,11] rfl (zaw (zay (zaC rfl (zau rfl)) ?_))))
    rw [zLy g0 (by omega) hc19 g3 g2]
   ·have hc19:=oD hc19
    refine zaq (gS (gM rfl (gM rfl (gQ (zaE se45 rfl rfl (fun _=>rH hm)) (gQ (zcE tf3 rfl (fun _=>rH hm) (by omega) (by omega) rfl) (gA rfl (gN [0,1,4,6,7,9,10,11] rfl (gS (gM rfl (gM rfl (gQ (zaJ zvS rfl (fun w hw=>zLx (l.getD (i).toNat default) (m.getD (i).toNat default) w)) (gA rfl (gN [0,1,4,8,9,10,11] rfl (gS (gM rfl (gQ (zcr rfl rfl) (gN [0,1,4,8,9,10,11,28] rfl (zap rfl (fun hc28=>?_) (fun hc28=>?_)))))))))))))))))))
    ·have hc28:¬ cmpF (l.getD i.toNat default) (m.getD i.toNat default)=0:=by simpa using hc28
     refine gS (gM rfl (gA rfl (gN [0,1,4,9,10,11] rfl (zaw (zay (zaC rfl (zau rfl)) ?_)))))
     rw [zL0 g0 (by omega) (by omega) g2 hc28]
    ·have hc28:cmpF (l.getD i.toNat default) (m.getD i.toNat default)=0:=by simpa using hc28
     refine zaq (zaa (gQ (zaY rfl rfl) (gM rfl (gN [0,1,4,9,10,11] rfl ?_))))
     exact za1 _ (sB rfl) rfl ⟨by omega,by omega,by omega,fun j hj=>if h:(j:Int) < i then g2 j h else(by rw [show j=i.toNat from by omega]; exact zLf.1 hc28)⟩ (by omega)
  ·simp only [dF] at hc12
   refine za8 rfl (zac (gS (gM rfl (gQ (zaV (Tryz.underlying45) rfl) (gM rfl (gQ (zaV (Tryz.underlying45) rfl) (gQ (zbw rfl rfl) (gN [4,35] rfl (zap rfl (fun hc35=>?_) (fun hc35=>?_))))))))))
   ·have hc35:=oT hc35
    refine gS (gA rfl (gN [4] rfl (zaw (zay (zaC rfl (zau rfl)) ?_))))
    rw [zLp (by omega) (fun j hj=>g2 j (by omega)),if_pos (by omega)]
   ·have hc35:=oD hc35
    refine zaq (gS (gA rfl (gN [4] rfl (zaw (zay (zaC rfl (zau rfl)) ?_)))))
    rw [zLp (by omega) (fun j hj=>g2 j (by omega)),if_neg (by omega)]
theorem zLR (a:Option Addr) (cap:Nat) (l:List Crg) (w:World) (hl:Has w (zaW a 5 zzK l)) (hs:l.length≤300000) :
  Calls Tryz.prog 114 #[.slice a l.length cap] w (zcU (fun z:Option Addr×Nat=>.slice z.1 (zIh l).length z.2) (fun z=>Row z.1 1 z.2 3 Go.Stn.encI (zIh l)) w):=by
 refine zan (vs:=[_]) Tryz.func114 rfl rfl (bL rfl) (gS (gA rfl (gN [0,2] rfl (gS (gA rfl (gN [0,2,3] rfl (zac (gS (gM rfl (gQ (zaV (Tryz.underlying149) rfl) (gM rfl (gN [2,3,6,7,8] rfl (zas (zbB 3 Go.Stn.encI 1 (zbf (X:=Int×Option Addr×Nat×List Int) (fun⟨i,ra,rc,N⟩=>[(2,.slice none 0 0),(3,.slice ra N.length rc),(6,.slice a l.length cap),(7,.int .i64 (l.length:Int)),(8,.int .i64 i)]) (fun⟨i,ra,rc,N⟩=>[Row ra 1 rc 3 Go.Stn.encI N]) (fun⟨i,ra,rc,N⟩=>(0≤i∧i≤l.length∧N=(zIh l).take i.toNat)) (fun⟨i,ra,rc,N⟩=>(l.length - i).toNat) (0,none,0,[]) (sB rfl) rfl ?_ ?_)))))))))))))))
 ·exact⟨by omega,by omega,rfl⟩
 ·rintro ⟨i,ra,rc,N⟩ hI
  obtain⟨g0,g1,g2⟩:=hI
  have hbl:(zIh l).length=l.length:=zId
  have hnl:N.length≤l.length:=by rw [g2,List.length_take]; omega
  refine gS (gQ (zbw rfl rfl) (gN [2,3,6,7,8,9] rfl (zac (zap rfl (fun hc9=>?_) (fun hc9=>?_)))))
  ·have hc9:=oT hc9
   refine zaq (zac (zas (gS (gQ (zaE zHY rfl rfl (fun _=>rH hl)) (gQ (zbv (vs:=[_,_,_,_,_]) zyD rfl (fun _=>rH hl) (by omega) (by omega) rfl) (zaG rfl rfl (zaL zyD (zs:=[_,_,_,_,_]) rfl) fun b5=>(zaA 0 zyD rfl rfl (vs:=[_,_,_,_,_]) rfl rfl rfl rfl rfl (gN [2,3,5,6,7,8] rfl (zaa (gM rfl (gQ (zab zAd rfl) (gQ (zah 0 tf3 rfl rfl rfl) (zaG rfl rfl (zaD rfl (zA3 _) Go.Stn.encI_ok rfl) fun b15=>(zb4 (m:=[(l.getD (i).toNat default).brd]) 2 af45 Go.Stn.encI_ok rfl rfl rfl rfl (fun _ hw=>(zam Go.Stn.encI_ok (hw.has (p:=0) rfl))) (by first | omega | (simp only [lC,lN]; omega)) (by first | (unfold maxLen; omega) | (simp only [lC,lN,maxLen]; omega)) fun a16 c16=>(gA rfl (gN [2,3,6,7,8] rfl (zaa (gQ (zaY rfl rfl) (gM rfl (gN [2,3,6,7,8] rfl (zaK 0 rfl (zaK 0 rfl ?_))))))))))))))))))))))
   exact za1 (i+1,_,_,_) (sB rfl) rfl ⟨by omega,by omega,by rw [g2,←zDi g0 (by omega),zLY (by omega)]⟩ (by simp only []; omega)
  ·have hc9:=oD hc9
   have hN:N=(zIh l):=by rw [g2,List.take_of_length_le (by omega)]
   refine za8 rfl (gS (gM rfl (gA rfl (gN [2] rfl (zaw (zbd (ra,rc) 0 (zaC rfl (zau rfl)) ?_ (by rw [hN]; rfl)))))))
   rw [hN]
theorem zLo (t o:Trk) (a:Option Addr) (cap:Nat) (b:Option Addr) (bcap:Nat) (w:World) (hl:Has w (zaW a 5 zzK t.l)) (hs:t.l.length≤300000) (hm:Has w (zaW b 5 zzK o.l)) (hs2:o.l.length≤300000) :
  Calls Tryz.prog 93 #[.agg #[.int .i64 t.eff,.slice a t.l.length cap,.bool t.there],.agg #[.int .i64 o.eff,.slice b o.l.length bcap,.bool o.there]] w (Pure (.int .i64 (befT t o)) w):=by
 refine zan (vs:=[_,_]) Tryz.func93 rfl rfl (bL rfl) (gS (zaG rfl rfl (za3 (vs:=[_,_,_]) rfl rfl) fun b2=>(zaG rfl rfl (za3 (vs:=[_,_,_]) rfl rfl) fun b3=>(gA rfl (gN [2,3,4] rfl (gS (gA rfl (gN [2,3,4,5] rfl (zac (gZ 24 (ph_y (zab zLi rfl) (ph_y (zah 1 tf3 rfl rfl rfl) (ph_y (zab zLi rfl) (ph_y (zah 0 tf3 rfl rfl rfl) (ph_y (zaJ zvS rfl (fun w hw=>zLx t.eff o.eff w)) (ph_y (zab zLe rfl) (ph_y (zah 1 zLt rfl rfl rfl) (ph_y (zaV (Tryz.underlying149) rfl) (ph_y (zab zLe rfl) (ph_y (zah 0 zLt rfl rfl rfl) (ph_y (zaV (Tryz.underlying149) rfl) (ph_y (zaJ zvS rfl (fun w hw=>zLx (t.l.length:Int) (o.l.length:Int) w)) (ph_y (zaf rfl) (ph_y (zab zLe rfl) (ph_y (zah 1 zLt rfl rfl rfl) (zmr (zLr (fs:=[]) (cap:=[]) zpl rfl rfl (fun w hw=>zLR _ _ t.l w (rH hl hw) (by omega))) (ph_y (zaf rfl) (ph_y (zab zLe rfl) (ph_y (zah 0 zLt rfl rfl rfl) (zmr (fun p21=>zLr (fs:=[]) (cap:=[]) zpl rfl rfl (fun w hw=>zLR _ _ o.l w (rH hm hw) (by omega))) ?_))))))))))))))))))))))))))))))
 refine ph_y (fun p25 p21=>zaJ zw6 rfl (fun w hw=>zMj _ _ (zIh t.l) _ _ (zIh o.l) w (zam Go.Stn.encI_ok (hw.has (p:=0) rfl)) (by rw [lM]; unfold zaP; omega) (zam Go.Stn.encI_ok (hw.has (p:=1) rfl)) (by rw [lM]; unfold zaP; omega))) (zmr (zaD rfl (zMg _ _ _) Go.Stn.encI_ok rfl) (ph_y (fun b27=>zaJ zw5 rfl (fun w hw=>zMq _ _ ([(cmpF t.eff o.eff),(cmpF (t.l.length:Int) (o.l.length:Int)),(cmpL (zIh t.l) (zIh o.l))]) w (zam Go.Stn.encI_ok (hw.has (p:=0) rfl)) (by simp [zaP]))) (ph_y (fun b27 p25 p21=>zad rfl) ?_)))
 intro b27
 intro p25
 intro p21
 refine gN [4] rfl (zaw (zay (zaC rfl (zau rfl)) ?_))
 rfl
end Go.Proofs.YteepmmghanbllaaGreatDoor
namespace Go.Fld
open Go Go.K Go.Stn Go.Pln
abbrev allM:Crg→Bool:=fun _=>true
structure Dij (W:List (Crg×Crg)) (n:Nat) (frm:Int) (T:List Trk) (D:List Bool):Prop where
 imp:Imp W allM n frm T
 dl:D.length=40
 dt:∀ i:Nat,i < n→D.getD i false=true→(T.getD i default).there=true
 mono:∀ i j:Nat,i < n→j < n→D.getD i false=true→D.getD j false=false→(T.getD j default).there=true→kLt (T.getD j default) (T.getD i default)=false
 fix:∀ c,zIm W allM c→D.getD c.frm.toNat false=true→zIg (extT (T.getD c.frm.toNat default) c) (T.getD c.to.toNat default)=false
def Sel (T:List Trk) (D:List Bool) (i:Nat) (next:Int):Prop:=
 (next = -1∧∀ j:Nat,j < i→¬ ((T.getD j default).there=true∧D.getD j false=false)) ∨
 ((0≤next∧next < i)∧((T.getD next.toNat default).there=true∧D.getD next.toNat false=false)∧∀ j:Nat,j < i→(T.getD j default).there=true→D.getD j false=false→kLt (T.getD j default) (T.getD next.toNat default)=false)
structure Ong (W:List (Crg×Crg)) (n:Nat) (frm:Int) (T:List Trk) (D:List Bool) (next:Int) (k:Nat):Prop where
 imp:Imp W allM n frm T
 dl:D.length=40
 dt:∀ i:Nat,i < n→D.getD i false=true→(T.getD i default).there=true
 mono:∀ i j:Nat,i < n→j < n→D.getD i false=true→D.getD j false=false→(T.getD j default).there=true→kLt (T.getD j default) (T.getD i default)=false
 top:∀ i:Nat,i < n→D.getD i false=true→kLt (T.getD next.toNat default) (T.getD i default)=false
 nx:(0≤next∧next < n)∧D.getD next.toNat false=true
 fix:∀ c,zIm W allM c→D.getD c.frm.toNat false=true→c.frm≠next→zIg (extT (T.getD c.frm.toNat default) c) (T.getD c.to.toNat default)=false
 fixn:∀ j:Nat,j < k→∀ c,(outL W next)[j]?=some c→zIg (extT (T.getD next.toNat default) c) (T.getD c.to.toNat default)=false
section
variable {W:List (Crg×Crg)} {n k:Nat} {frm next:Int} {T:List Trk} {D:List Bool} {bs:List Bdr}
theorem zL2 (h:Dij W n frm T D) (hw:zIB W n) (hs:Sel T D n (-1)):Best W allM n frm T:=by
 refine zJv h.imp fun c hc ht=>h.fix c hc ?_
 rcases hs with ⟨_,hs⟩ | ⟨⟨h1,_⟩,_⟩
 ·have:=hs c.frm.toNat (by have:=hw c hc.1; omega)
  cases e:D.getD c.frm.toNat false with
  | true=>rfl
  | false=>exact absurd ⟨ht,e⟩ this
 ·omega
theorem zMr:Sel T D 0 (-1):=Or.inl ⟨rfl,fun j h=>by omega⟩
theorem zLO {i:Nat} (h:Sel T D i next) (hc:¬ ((T.getD i default).there=true∧D.getD i false=false)):Sel T D (i+1) next:=by
 rcases h with ⟨h1,h2⟩ | ⟨⟨h1,h2⟩,h3,h4⟩
 ·exact Or.inl ⟨h1,fun j hj=>if e:j < i then h2 j e else(by rw [show j=i from by omega]; exact hc)⟩
 ·exact Or.inr ⟨⟨h1,by omega⟩,h3,fun j hj a b=>if e:j < i then h4 j e a b else(by have e2:j=i:=(by omega); subst e2; exact absurd ⟨a,b⟩ hc)⟩
theorem zLM {i:Nat} (h:Sel T D i next) (hn:0≤next) (hk:kLt (T.getD i default) (T.getD next.toNat default)=false):Sel T D (i+1) next:=by
 rcases h with ⟨h1,h2⟩ | ⟨⟨h1,h2⟩,h3,h4⟩
 ·omega
 ·exact Or.inr ⟨⟨h1,by omega⟩,h3,fun j hj a b=>if e:j < i then h4 j e a b else(by have e2:j=i:=(by omega); subst e2; exact hk)⟩
theorem zL8 {i:Nat} (h:Sel T D i next) (hc:(T.getD i default).there=true∧D.getD i false=false) (hk:next < 0∨kLt (T.getD i default) (T.getD next.toNat default)=true):Sel T D (i+1) i:=by
 refine Or.inr ⟨⟨by omega,by omega⟩,by rw [Int.toNat_natCast]; exact hc,fun j hj a b=>?_⟩
 rw [Int.toNat_natCast]
 by_cases e:j < i
 ·rcases h with ⟨h1,h2⟩ | ⟨⟨h1,h2⟩,h3,h4⟩
  ·exact absurd ⟨a,b⟩ (h2 j e)
  ·rcases hk with hk | hk
   ·omega
   ·exact k_nt (h4 j e a b) (zJ1 hk)
 ·rw [show j=i from by omega]; exact zKf _
theorem zLU {i:Nat} (h:Sel T D i next):-1≤next∧next < i:=by
 rcases h with ⟨h1,_⟩ | ⟨h1,_⟩ <;> omega
theorem zLC (hw:zIB W n) (h:Dij W n frm T D) (hn:n≤40) (hs:Sel T D n next) (h0:0≤next):Ong W n frm T (D.set next.toNat true) next 0:=by
 rcases hs with ⟨h1,_⟩ | ⟨⟨_,h2⟩,⟨h3,h3'⟩,h4⟩
 ·omega
 have hl:next.toNat < D.length:=by rw [h.dl]; omega
 refine⟨h.imp,by rw [List.length_set]; exact h.dl,fun i hi a=>?_,fun i j hi hj a b ht=>?_,fun i hi a=>?_,⟨⟨h0,h2⟩,by rw [zEi hl,if_pos rfl]⟩,fun c hc a hne=>?_,fun j hj=>by omega⟩
 ·rw [zEi hl] at a
  by_cases e:i=next.toNat
  ·rw [e]; exact h3
  ·rw [if_neg e] at a; exact h.dt i hi a
 ·rw [zEi hl] at a b
  by_cases ej:j=next.toNat
  ·rw [if_pos ej] at b; cases b
  ·rw [if_neg ej] at b
   by_cases ei:i=next.toNat
   ·rw [ei]; exact h4 j hj ht b
   ·rw [if_neg ei] at a; exact h.mono i j hi hj a b ht
 ·rw [zEi hl] at a
  by_cases ei:i=next.toNat
  ·rw [ei]; exact zKf _
  ·rw [if_neg ei] at a; exact h.mono i _ hi (by omega) a h3' h3
 ·rw [zEi hl] at a
  have hcf:=(hw c hc.1).1
  rw [if_neg (by omega)] at a; exact h.fix c hc a
theorem zK0 {c:Crg} {cell:Int} (h:c∈outL W cell):zIm W allM c∧c.frm=cell:=by
 obtain⟨h1,h2,h3⟩:=zJd h
 exact⟨⟨h1,h3,rfl⟩,h2⟩
theorem zLD (h:Ong W n frm T D next k):(T.getD next.toNat default).there=true:=h.dt _ (by have:=h.nx; omega) h.nx.2
theorem zLB (he:zJJ W) (h:Ong W n frm T D next k) {c:Crg} (hc:c∈outL W next) {i:Nat} (hi:i < n) (hd:D.getD i false=true):kLt (extT (T.getD next.toNat default) c) (T.getD i default)=false:=by
 obtain⟨⟨h1,h2,_⟩,_⟩:=zK0 hc
 have:=he c h1 h2
 exact k_nt (zJ2 (b:=T.getD next.toNat default) (by show _ < _+_; omega)) (h.top i hi hd)
theorem zMl (he:zJJ W) (hw:zIB W n) (h:Ong W n frm T D next k) {c:Crg} (hc:(outL W next)[k]?=some c) (hno:D.getD c.to.toNat false=true∨zIg (extT (T.getD next.toNat default) c) (T.getD c.to.toNat default)=false):Ong W n frm T D next (k+1):=by
 refine⟨h.imp,h.dl,h.dt,h.mono,h.top,h.nx,h.fix,fun j hj d hd=>?_⟩
 by_cases e:j < k
 ·exact h.fixn j e d hd
 ·obtain rfl:j=k:=by omega
  obtain rfl:c=d:=Option.some.inj (hc.symm.trans hd)
  have hm:c∈outL W next:=List.mem_of_getElem? hc
  rcases hno with hn | hn
  ·have hct:=(hw c (zK0 hm).1.1).2
   exact zLA (h.dt _ (by omega) hn) (zLB he h hm (by omega) hn)
  ·exact hn
theorem zL6 (hp:zyI W bs) (hbs:bs.length≤80) (he:zJJ W) (hw:zIB W n) (hn:n≤40) (hf0:0≤frm) (h:Ong W n frm T D next k) {c:Crg} (hc:(outL W next)[k]?=some c) (h1:D.getD c.to.toNat false=false) (h2:zIg (extT (T.getD next.toNat default) c) (T.getD c.to.toNat default)=true) :
  Ong W n frm (T.set c.to.toNat (extT (T.getD next.toNat default) c)) D next (k+1):=by
 have hm:c∈outL W next:=List.mem_of_getElem? hc
 obtain⟨hu,hfr⟩:=zK0 hm
 have hct:=(hw c hu.1).2
 have hth:=zLD h
 have hti:c.to.toNat < T.length:=by rw [h.imp.len]; omega
 have hnx:=h.nx
 have hne:next.toNat≠c.to.toNat:=by intro e; rw [←e,hnx.2] at h1; cases h1
 have himp:=(zJw hp hbs he hw hn hf0 h.imp hu (by rw [hfr]; exact hth) (by rw [hfr]; exact h2)).1
 rw [hfr] at himp
 have hlow:∀ {i:Nat},i < n→D.getD i false=true→kLt (extT (T.getD next.toNat default) c) (T.getD i default)=false:=fun hi hd=>zLB he h hm hi hd
 have hdn:∀ {i:Nat},D.getD i false=true→i≠c.to.toNat:=fun hd e=>by rw [e,h1] at hd; cases hd
 have hkeep:∀ {d:Crg} {t:Trk},zIg (extT t d) (T.getD d.to.toNat default)=false→zIg (extT t d) ((T.set c.to.toNat (extT (T.getD next.toNat default) c)).getD d.to.toNat default)=false:=by
  intro d t hd
  rw [zIq hti]
  by_cases e:d.to.toNat=c.to.toNat
  ·rw [if_pos e]
   rw [e] at hd
   obtain⟨d1,d2⟩:=zJ7 hd
   refine zLA rfl (k_nt d2 (zJ1 ?_))
   unfold zIg at h2; rw [d1] at h2; exact h2
  ·rw [if_neg e]; exact hd
 refine⟨himp,h.dl,fun i hi a=>?_,fun i j hi hj a b ht=>?_,fun i hi a=>?_,h.nx,fun d hd a hx=>?_,fun j hj d hd=>?_⟩
 ·rw [zIq hti,if_neg (hdn a)]; exact h.dt i hi a
 ·rw [zIq hti] at ht ⊢
  rw [zIq hti,if_neg (hdn a)]
  by_cases e:j=c.to.toNat
  ·rw [if_pos e]; exact hlow hi a
  ·rw [if_neg e] at ht ⊢; exact h.mono i j hi hj a b ht
 ·rw [zIq hti,if_neg hne,zIq hti,if_neg (hdn a)]; exact h.top i hi a
 ·rw [show(T.set c.to.toNat (extT (T.getD next.toNat default) c)).getD d.frm.toNat default=T.getD d.frm.toNat default by rw [zIq hti,if_neg (hdn a)]]
  exact hkeep (h.fix d hd a hx)
 ·rw [show(T.set c.to.toNat (extT (T.getD next.toNat default) c)).getD next.toNat default=T.getD next.toNat default by rw [zIq hti,if_neg hne]]
  by_cases e:j < k
  ·exact hkeep (h.fixn j e d hd)
  ·obtain rfl:j=k:=by omega
   obtain rfl:c=d:=Option.some.inj (hc.symm.trans hd)
   rw [zIq hti,if_pos rfl]
   exact zLA rfl (zKf _)
theorem zL5 (_hw:zIB W n) (h:Ong W n frm T D next k) (hk:(outL W next).length≤k):Dij W n frm T D:=by
 refine⟨h.imp,h.dl,h.dt,h.mono,fun c hc hd=>?_⟩
 by_cases e:c.frm=next
 ·have hm:c∈outL W next:=by rw [←e]; exact zJK hc.1 hc.2.1
  obtain⟨j,hj,rfl⟩:=List.getElem_of_mem hm
  rw [e]
  exact h.fixn j (by omega) _ (eG hj)
 ·exact h.fix c hc hd e
end
abbrev TrkR:=Trk×Option Addr×Nat
abbrev zLb (z:TrkR):List Value:=[.int .i64 z.1.eff,.slice z.2.1 z.1.l.length z.2.2,.bool z.1.there]
theorem zLa:Enc 3 zLb:=⟨fun _=>rfl,fun _=>rfl,by decide⟩
abbrev trkL (L:List TrkR):List Trk:=L.map (·.1)
theorem zIe {L:List TrkR} (i:Nat):(trkL L).getD i default=(L.getD i default).1:=by
 rw [gE,List.getElem?_map,gE]
 cases L[i]? <;> rfl
theorem zJm {L:List TrkR} {i:Nat} {z:TrkR}:trkL (L.set i z)=(trkL L).set i z.1:=List.map_set ..
abbrev trk0 (n:Nat) (frm:Int):List TrkR:=(List.replicate n (default:TrkR)).set frm.toNat ⟨⟨0,[],true⟩,none,0⟩
theorem zJU {n i:Nat}:(List.replicate n (default:TrkR)).getD i default=default:=by
 rw [gE]
 cases h:(List.replicate n (default:TrkR))[i]? with
 | none=>rfl
 | some v=>exact(List.mem_replicate.1 (List.mem_of_getElem? h)).2
theorem zJB {n:Nat} {frm:Int}:(List.replicate n (default:TrkR)).set frm.toNat ({ ((List.replicate n (default:TrkR)).getD frm.toNat default).1 with there:=true },((List.replicate n (default:TrkR)).getD frm.toNat default).2)=trk0 n frm:=by rw [zJU]; rfl
theorem zIW {n:Nat} {frm:Int}:(trk0 n frm).length=n:=by rw [List.length_set,List.length_replicate]
theorem zJz {W:List (Crg×Crg)} {may:Crg→Bool} {n:Nat} {frm:Int} (h0:0≤frm) (h1:frm < n):Imp W may n frm (trkL (trk0 n frm)):=by
 rw [zJm,show trkL (List.replicate n (default:TrkR))=List.replicate n (default:Trk) from List.map_replicate ..]
 exact zJc h0 h1
theorem zJA {n:Nat} {frm:Int} {z:TrkR} (h:z∈trk0 n frm):z.1.l=[]∧z.2=(none,0):=by
 rcases List.mem_or_eq_of_mem_set h with h | h
 ·rw [(List.mem_replicate.1 h).2]; exact⟨rfl,rfl⟩
 ·rw [h]; exact⟨rfl,rfl⟩
section
variable {S:List ShC} {V:List WlC} {cs:List ByteArray} {bs:List Bdr} {x:Anm}
theorem zL1 (h:zym S V cs bs x=true) {c:Crg} (hc:c∈allC (zyj S V bs x)):∃ (i:Nat) (back:Bool),i < bs.length∧c=wayI S V bs x i back∧c.brd=i∧(back=false→c.frm=(bs.getD i default).a∧c.to=(bs.getD i default).b)∧(back=true→c.frm=(bs.getD i default).b∧c.to=(bs.getD i default).a):=by
 have hp:=zBa h
 obtain⟨i,hi,e⟩:=zFE hc
 have f1:=hp.fst i hi; have f2:=hp.snd i hi
 rw [zz5] at hi
 rcases e with e | e
 ·exact⟨i,false,hi,by rw [e,zIY.1],by rw [e]; exact f1.1,fun _=>by rw [e]; exact f1.2,fun h=>by cases h⟩
 ·exact⟨i,true,hi,by rw [e,zIY.2],by rw [e]; exact f2.1,(fun h=>by cases h),fun _=>by rw [e]; exact f2.2⟩
theorem zJV (h:zym S V cs bs x=true) {i:Nat} (hi:i < bs.length) (back:Bool):wayI S V bs x i back∈allC (zyj S V bs x)∧(wayI S V bs x i back).brd=i∧(wayI S V bs x i back).frm=(if back=true then(bs.getD i default).b else(bs.getD i default).a)∧(wayI S V bs x i back).to=(if back=true then(bs.getD i default).a else(bs.getD i default).b):=by
 have hp:=zBa h
 have hl:i < (zyj S V bs x).length:=by rw [zz5]; exact hi
 have f1:=hp.fst i hl; have f2:=hp.snd i hl
 cases back
 ·rw [←zIY.1]; exact⟨zBd hl,f1.1,f1.2.1,f1.2.2⟩
 ·rw [←zIY.2]; exact⟨zBe hl,f2.1,f2.2.1,f2.2.2⟩
end
section
variable {W:List (Crg×Crg)} {may:Crg→Bool} {n:Nat} {frm:Int} {T:List Trk} {bs:List Bdr}
theorem zIz (hp:zyI W bs) (hbs:bs.length≤80) (h:Imp W may n frm T) (hn:n≤40) {i:Nat} (hi:i < n):(T.getD i default).l.length≤280040∧0≤(T.getD i default).eff∧(T.getD i default).eff≤280040:=by
 cases e:(T.getD i default).there with
 | true=>
  have hf:=zIo hp hbs h hn hi e
  have:=hf.e0; have:=hf.e1; have:=hf.len
  omega
 | false=>rw [h.no i hi e]; exact⟨by decide,by decide,by decide⟩
end
section
variable {W:List (Crg×Crg)} {n k:Nat} {frm nx:Int} {L:List TrkR} {D:List Bool} {bs:List Bdr}
theorem zLN {T:List Trk} {i:Nat} (h:Sel T D i nx) (h0:0≤nx):nx < i∧(T.getD nx.toNat default).there=true∧D.getD nx.toNat false=false:=by
 rcases h with ⟨h1,_⟩ | ⟨⟨_,h1⟩,h2,_⟩
 ·omega
 ·exact⟨h1,h2⟩
theorem zMt {i:Int} (hi:0≤i) (h:Sel (trkL L) D i.toNat nx) (hc:(((L.getD i.toNat default).1.there&&!D.getD i.toNat false)&&(decide (nx < 0)||decide (befT (L.getD i.toNat default).1 (L.getD nx.toNat default).1 < 0)))=true):Sel (trkL L) D (i+1).toNat i:=by
 rw [zLn] at hc
 simp only [aT,Bool.or_eq_true,nT,dT] at hc
 have:=zL8 h (by rw [zIe]; exact hc.1) (by rw [zIe,zIe]; exact hc.2)
 rwa [tN hi,show i.toNat+1=(i+1).toNat from by omega] at this
theorem zMs {i:Int} (hi:0≤i) (h:Sel (trkL L) D i.toNat nx) (hc:(((L.getD i.toNat default).1.there&&!D.getD i.toNat false)&&(decide (nx < 0)||decide (befT (L.getD i.toNat default).1 (L.getD nx.toNat default).1 < 0)))=false):Sel (trkL L) D (i+1).toNat nx:=by
 rw [zLn] at hc
 rw [show(i+1).toNat=i.toNat+1 from by omega]
 by_cases h2:(L.getD i.toNat default).1.there=true∧D.getD i.toNat false=false
 ·rw [h2.1,h2.2] at hc
  have hc:(decide (nx < 0)||kLt (L.getD i.toNat default).1 (L.getD nx.toNat default).1)=false:=hc
  simp only [oF,dF] at hc
  exact zLM h (by omega) (by rw [zIe,zIe]; exact hc.2)
 ·exact zLO h (by rw [zIe]; exact h2)
theorem zMo (he:zJJ W) (hw:zIB W n) (h:Ong W n frm (trkL L) D nx k) (hk:k < (outL W nx).length)
  (hc:(!D.getD ((outL W nx).getD k default).to.toNat false&&(!(L.getD ((outL W nx).getD k default).to.toNat default).1.there||decide (befT (extT (L.getD nx.toNat default).1 ((outL W nx).getD k default)) (L.getD ((outL W nx).getD k default).to.toNat default).1 < 0)))=false):Ong W n frm (trkL L) D nx (k+1):=by
 refine zMl he hw h (c:=(outL W nx).getD k default) (by rw [gE,eG hk]; rfl) ?_
 rw [zLn] at hc
 cases e:D.getD ((outL W nx).getD k default).to.toNat false with
 | true=>exact .inl rfl
 | false=>
  rw [e] at hc
  refine .inr ?_
  rw [zIe,zIe]
  exact hc
theorem zMb (hp:zyI W bs) (hbs:bs.length≤80) (he:zJJ W) (hw:zIB W n) (hn:n≤40) (hf0:0≤frm) (h:Ong W n frm (trkL L) D nx k) (hk:k < (outL W nx).length) (z:Option Addr×Nat)
  (hc:(!D.getD ((outL W nx).getD k default).to.toNat false&&(!(L.getD ((outL W nx).getD k default).to.toNat default).1.there||decide (befT (extT (L.getD nx.toNat default).1 ((outL W nx).getD k default)) (L.getD ((outL W nx).getD k default).to.toNat default).1 < 0)))=true) :
  Ong W n frm (trkL (L.set ((outL W nx).getD k default).to.toNat (extT (L.getD nx.toNat default).1 ((outL W nx).getD k default),z))) D nx (k+1):=by
 rw [zLn] at hc
 rw [aT,nT] at hc
 have:=zL6 hp hbs he hw hn hf0 h (c:=(outL W nx).getD k default) (by rw [gE,eG hk]; rfl) hc.1 (by rw [zIe,zIe]; exact hc.2)
 rw [zIe] at this
 rw [zJm]; exact this
theorem zMm (he:zJJ W) (hw:zIB W n) {k:Nat} (hk:k < (outL W nx).length):(0≤((outL W nx).getD k default).to∧((outL W nx).getD k default).to < n)∧1≤((outL W nx).getD k default).eff∧((outL W nx).getD k default).eff≤7001:=by
 obtain⟨⟨h1,h2,_⟩,_⟩:=zK0 (za0 hk)
 exact⟨(hw _ h1).2,he _ h1 h2⟩
theorem zLQ (h0:0≤frm) (h1:frm < n):Dij W n frm (trkL (trk0 n frm)) (List.replicate 40 false):=
 ⟨zJz h0 h1,List.length_replicate ..,fun i _ h=>(by rw [zAE] at h; cases h),fun i j _ _ h=>(by rw [zAE] at h; cases h),fun c _ h=>(by rw [zAE] at h; cases h)⟩
theorem zLm (hp:zyI W bs) (hbs:bs.length≤80) {may:Crg→Bool} (h:Imp W may n frm (trkL L)) (hn:n≤40):∀ i:Nat,i < n→(L.getD i default).1.l.length≤280040∧0≤(L.getD i default).1.eff∧(L.getD i default).1.eff≤280040:=fun i hi=>by
 have:=zIz hp hbs h hn hi
 rwa [zIe] at this
end
end Go.Fld
namespace Go.K
open Go Go.RowKit
theorem zI1 {R:Res} {w:World}:∀ (H:List Res) (i:Nat) (B C E:Nat→Prop),(∀ k,C k→B k)→(∀ k,E k→B k∧¬ C k)→All H C w→R.A E w→All (H.set i R) B w
 | [],_,_,_,_,_,_,_,_=>trivial
 | _ :: r,0,B,C,E,h1,h2,⟨D,F,k1,k2,_,hr⟩,hR=>by
  show All (R :: r) B w
  exact⟨E,F,fun k hk=>(h2 k hk).1,fun k hk=>⟨h1 k (k2 k hk).1,fun he=>(h2 k he).2 (k2 k hk).1⟩,hR,hr⟩
 | R0 :: r,i+1,B,C,E,h1,h2,⟨D,F,k1,k2,hA,hr⟩,hR=>by
  show All (R0 :: r.set i R) B w
  refine⟨D,fun k=>F k∨E k,fun k hk=>h1 k (k1 k hk),fun k hk=>?_,hA,zI1 r i (fun k=>F k∨E k) F E (fun k hk=>.inl hk) (fun k hk=>⟨.inr hk,fun hf=>(h2 k hk).2 (k2 k hf).1⟩) hr hR⟩
  rcases hk with hk | hk
  ·exact⟨h1 k (k2 k hk).1,(k2 k hk).2⟩
  ·exact⟨(h2 k hk).1,fun hd=>(h2 k hk).2 (k1 k hd)⟩
section
variable {α:Type} {f:α→Res} {L:List α} {z:α} {B:Nat→Prop} {w:World}
theorem zIV (i:Nat) (h:(SepR [Rows f L,f z]).A B w):(Rows f (L.set i z)).A B w:=by
 obtain⟨C,E,h1,h2,hA,D,_,h3,_,hR,_⟩:=h
 show All ((L.set i z).map f) B w
 rw [List.map_set]
 exact zI1 _ i B C D h1 (fun k hk=>h2 k (h3 k hk)) hA hR
theorem zJf {L:List α} (h:∀ z∈L,(f z).A (fun _=>False) w):(Rows f L).A (fun _=>False) w:=by
 show All (L.map f) _ w
 induction L with
 | nil=>trivial
 | cons x L ih=>exact⟨fun _=>False,fun _=>False,fun _ h=>h,fun _ h=>h.elim,h x (mS ..),ih fun z hz=>h z (mM _ hz)⟩
end
section
variable {c:Cx} {ds:List Deferred} {T:List (Nat×Value)} {H:List Res} {K:Act→World→Prop}
theorem zIL {α:Type} (f:α→Res) (L:List α) (hn:∀ w,∀ z∈L,(f z).A (fun _=>False) w) (h:GK c ds K T (Rows f L :: H)):GK c ds K T H:=fun a w ha hw=>
 h a w ha ⟨hw.base,fun _=>False,fun _ hk=>hk.elim,zJf (hn w),Holds.anti H (fun _ hk=>hk.elim id False.elim) hw.holds⟩
end
def Dfrs:List Nat→Res
 | []=>Emp
 | D :: M=>SepR [Dfr D,Dfrs M]
abbrev mrk (M:List Nat) (ds:List Deferred):List Deferred:=M.map mark++ds
def NxtM (c:Cx) (ds:List Deferred) {X:Type} (Tf:X→List (Nat×Value)) (Hf:X→List Res) (Mf:X→List Nat) (I:X→Prop) (μ:X→Nat) (m:Nat):Act→World→Prop:=
 fun a w=>∃ x',Sat c.n (Tf x') (mrk (Mf x') ds) a∧Hp c.U c.w0 (Hf x') w∧I x'∧μ x' < m
section
variable {c:Cx} {ds ds':List Deferred} {p:Post} {T:List (Nat×Value)} {H:List Res}
theorem zKT {K:Act→World→Prop} (h:GK c (mrk [] ds) K T (Dfrs [] :: H)):GK c ds K T H:=zyS h
theorem zK2 {X:Type} {Tf:X→List (Nat×Value)} {Hf:X→List Res} {Mf:X→List Nat} {I:X→Prop} {μ:X→Nat} {m:Nat} (x':X) (hd:ds' = mrk (Mf x') ds) (hT:sub (Tf x') T) (hH:Hf x' = H) (hI:I x') (hm:μ x' < m) :
  GK c ds' (NxtM c ds Tf Hf Mf I μ m) T H:=fun _ _ ha hw=>⟨x',hd ▸ ha.mono hT,hH ▸ hw,hI,hm⟩
theorem zK1 {body:Code} {X:Type} (Tf:X→List (Nat×Value)) (Hf:X→List Res) (Mf:X→List Nat) (I:X→Prop) (μ:X→Nat) (x0:X) (hM:Mf x0=[]) (hT:sub (Tf x0) T) (hH:Hf x0=H) (hI:I x0)
  (round:∀ x,I x→GK c (mrk (Mf x) ds) (KC c body { nrm:=NxtM c ds Tf Hf Mf I μ (μ x),ret:=p.ret,ex:=p.ex,pn:=p.pn }) (Tf x) (Hf x)):GK c (mrk [] ds) (KC c (.loop body) p) T H:=by
 subst hH
 intro a w ha hw
 have key:∀ (m:Nat) (x:X),μ x=m→I x→∀ a w,Sat c.n (Tf x) (mrk (Mf x) ds) a→Hp c.U c.w0 (Hf x) w →
   ∀ (b:Frame) (k:List Item) (cs:List Frame),b.roundOf=(FW c.r).round→(FW c.r).fn b.fn→(FW c.r).room (cs.length+1+0) →
   ∃ e a' w',p.Q e a' w'∧ArrivesIn (Machine.fenced c.P (FW c.r)) c.P (lone (b.atR a (.code body :: .inLoop body :: k)) cs w) b k cs e a' w':=by
  intro m
  induction m using Nat.strongRecOn with
  | _ m ih=>
   intro x hm hI a w ha hw b k cs hro hb hr
   obtain⟨e,a₁,w₁,hq,harr⟩:=round x hI a w ha hw b (.inLoop body :: k) cs hro hb hr
   cases e with
   | normal=>
    obtain⟨x',ha',hw',hI',hlt⟩:=hq
    obtain⟨e₂,a₂,w₂,hq₂,harr₂⟩:=ih (μ x') (hm ▸ hlt) x' rfl hI' a₁ w₁ ha' hw' b k cs hro hb hr
    exact⟨e₂,a₂,w₂,hq₂,.of_steps (StepsIn.trans harr (.one (fenced_calm hb hr rfl) stepR_inLoop)) harr₂⟩
   | exit id=>exact⟨.exit id,a₁,w₁,hq,.pass (x:=.inLoop body) rfl (fun _ _=>.inl (by simp)) harr⟩
   | ret=>exact⟨.ret,a₁,w₁,hq,.pass (x:=.inLoop body) rfl (fun _ _=>.inl (by simp)) harr⟩
   | goto l=>exact hq.elim
   | panic ch=>exact⟨.panic ch,a₁,w₁,hq,.pass (x:=.inLoop body) rfl (fun _ _=>.inl (by simp)) harr⟩
   | outgrown=>exact hq.elim
 intro b k cs hro hb hr
 obtain⟨e,a',w',hq,harr⟩:=key _ x0 rfl hI a w (by rw [hM]; exact ha.mono hT) hw b k cs hro hb hr
 exact⟨e,a',w',hq,.of_steps (.one (fenced_calm hb hr rfl) stepR_loop) harr⟩
theorem zKK {fn:Func} {R:Ending→World→Prop}:∀ {M:List Nat} {H:List Res},GK c ds (RetP c.P fn R) T H→GK c (mrk M ds) (RetP c.P fn R) T (Dfrs M :: H)
 | [],_,h=>ztW h
 | _ :: _,_,h=>zbP (zil 0 rfl (zKK h))
theorem zKJ {fn:Func} {R:Ending→World→Prop} {M:List Nat} (i:Nat) (hi:H[i]?=some (Dfrs M)) (h:GK c ds (RetP c.P fn R) T (H.eraseIdx i)):GK c (mrk M ds) (RetP c.P fn R) T H:=zao i hi (zKK h)
end
end Go.K
namespace Go.Proofs.YteepmmghanbllaaGreatDoor
open Go.K Go.Stn Go.Pln Go.Fld Go.RowKit
theorem zLd:TF Tryz.prog 163 true 3 (.agg #[.int .i64 0,.slice none 0 0,.bool false]):=tK
theorem zLg:TF Tryz.prog 164 false 1 (.slice none 0 0):=tK
theorem zL3:FO Tryz.prog 128 0 0:=fK
theorem zLj:FO Tryz.prog 163 2 2:=fK
theorem zLk:SE Tryz.prog 164 163 3:=⟨Tryz.underlying164,by kernel_rfl⟩
theorem zMp:AF Tryz.prog 164 163 3 40 [.int .i64 0,.slice none 0 0,.bool false]:=⟨Tryz.underlying164,by kernel_rfl,rfl⟩
theorem en93:En Tryz.prog 93:=eK Tryz.func93
theorem en94:En Tryz.prog 94:=eK Tryz.func94
theorem zLh (x0:Int) (x1a:Option Addr) (x1n x1c:Nat) (x2:Bool) (w:World):(Instr.build 163 #[(0,.int .i64 x0),(1,.slice x1a x1n x1c),(2,.bool x2)]).run Tryz.prog w=.ok (.agg #[.int .i64 x0,.slice x1a x1n x1c,.bool x2]) w:=by kernel_rfl
theorem zLZ  (w:World):(Instr.buildSlice 149 0 #[]).run Tryz.prog w=.ok (.slice (some ⟨w.heap.size,0,none⟩) 0 0) (w.alloc (.cells (([]:List (Crg)).flatMap zzK).toArray 144)):=by kernel_rfl
theorem zLH (a:Option Addr) (cap:Nat) (l:List Crg) (w:World) (hl:Has w (zaW a 5 zzK l)) (hs:l.length≤300000) :
  Calls Tryz.prog 94 #[.slice a l.length cap] w (zcU (fun z:Option Addr×Nat=>.slice z.1 l.length z.2) (fun z=>Row z.1 5 z.2 144 zzK l) w):=by
 refine zan (vs:=[_]) Tryz.func94 rfl rfl (bL rfl) (gS (gA rfl (gN [0,2] rfl (zac (gS (gM rfl (gQ (zuU (Tryz.underlying149) rfl rfl) (gN [0,2,4] rfl (zap rfl (fun hc4=>?_) (fun hc4=>?_))))))))))
 ·have hL:l=[]:=zrM hl hc4
  subst hL
  refine zbB 144 zzK 5 (gS (gA rfl (gN [0,2] rfl (zaw (zbd (none,0) 0 (zaC rfl (zau rfl)) ?_ rfl)))))
  rfl
 ·
  refine zaq (gS (zaG rfl rfl (zaD rfl (zLZ) zy5 rfl) fun b5=>(gM rfl (zb4 (m:=l) 0 zGT zy5 rfl rfl rfl rfl (fun _=>rH hl) (by simp only [lN]; (try unfold maxLen); omega) (by simp only [lN]; (try unfold maxLen); omega) fun a7 c7=>(gA rfl (gN [2] rfl (zaw (zbd (a7,c7) 0 (zaC rfl (zau rfl)) ?_ rfl))))))))
  rfl
theorem zLI (a:Option Addr) (cap:Nat) (l:List Crg) (w:World) (B:Nat→Prop) (hl:Has w (zaW a 5 zzK l)) (hs:l.length≤300000) :
  Calls Tryz.prog 94 #[.slice a l.length cap] w (zho (fun z:Option Addr×Nat=>.slice z.1 l.length z.2) (fun z=>Row z.1 5 z.2 144 zzK l) (fun _=>True) B w):=
 (zLH a cap l w hl hs).mono fun _e _w' ⟨x,he,hx,B',hn,hA⟩=>⟨x,B',he,trivial,hx.mod B,fun k hk=>.inr (hn k hk),hA⟩
abbrev rowP (z:TrkR):Res:=Row z.2.1 5 z.2.2 144 zzK z.1.l
theorem zLP (ca:Option Addr) (ccap:Nat) (cs:List ByteArray) (ba:Option Addr) (bcp:Nat) (bs:List Bdr) (lb:Nat) (wa fa:Option Addr) (wc fc:Nat) (W:List (Crg×Crg)) (F:List (Nat×List (Bool×Bool))) (frm:Int) (w:World) (hlb:Has w (Box lb [.slice ca cs.length ccap,.slice ba bs.length bcp,.slice wa W.length wc,.slice fa (F.map (·.1)).length fc] 128)) (hWl:Has w (zaW wa 10 zyw W)) (hW:zaP W.length) (hp:zyI W bs) (hbs80:bs.length≤80) (heff:zJJ W) (hcell:zIB W cs.length) (hn40:cs.length≤40) (h0:0≤frm) (h1:frm < cs.length) :
  Calls Tryz.prog 65 #[.pointer (some ⟨lb,0,none⟩),.int .i64 frm] w (zcU (fun z:Option Addr×Nat×List TrkR=>.slice z.1 z.2.2.length z.2.1) (fun z=>zDo (Best W allM cs.length frm (trkL z.2.2)) (SepR [Row z.1 3 z.2.1 163 zLb z.2.2,Go.K.Rows rowP z.2.2])) w):=by
 have hrl:(List.replicate cs.length (default:TrkR)).length=cs.length:=List.length_replicate ..
 refine zan (vs:=[_,_]) Tryz.func65 rfl rfl (bL rfl) (gS (gA rfl (gN [0,1,4] rfl (gS (gM rfl (gQ (zbx rfl) (gQ (zab zL3 rfl) (gQ (zab zBJ rfl) (gQ (zbW tf26 rfl (fun _ hw=>zaQ (rH hlb hw) rfl)) (gQ (zaV (Tryz.underlying26) rfl) (zaG rfl rfl (zB1 (n:=cs.length) (default:TrkR) zMp rfl rfl zLa rfl (by omega) (by omega)) fun b18=>(zaG rfl rfl (zaL zLg (zs:=[_]) rfl) fun b5=>(zaA 0 zLg rfl rfl (vs:=[_]) rfl rfl rfl rfl rfl (gN [0,1,4,5] rfl (gS (gQ (zah 0 zLg rfl rfl rfl) (gM rfl (gQ (zaE zLk rfl rfl (fun _ hw=>(zam zLa (hw.has (p:=1) rfl)))) (gQ (zbh zLj rfl (fun w hw=>zaO (i:=frm) (zam zLa (hw.has (p:=1) rfl)))) (zfG (x':=({ ((List.replicate cs.length (default:TrkR)).getD (frm).toNat default).1 with there:=true },((List.replicate cs.length (default:TrkR)).getD (frm).toNat default).2)) 1 zLa tf4 rfl rfl (vs:=[_]) rfl rfl (by decide) rfl rfl (by omega) (by omega) (gN [0,4,5] rfl (za2 (R':=Row (some ⟨b18,0,none⟩) 3 cs.length 163 zLb (trk0 cs.length frm)) 1 rfl (fun B w hA=>by rw [zJB] at hA; exact hA) ?_))))))))))))))))))))))
 refine za2 (R':=Box b5 [.slice (some ⟨b18,0,none⟩) cs.length cs.length] 164) 0 rfl (fun B w hA=>by rw [List.length_replicate] at hA; exact hA) (zIL rowP (trk0 cs.length frm) (fun w z hz=>by obtain⟨e1,e2⟩:=zJA hz; show(Row z.2.1 5 z.2.2 144 zzK z.1.l).A _ _; rw [e2,e1]; exact zAR) (gS (zaG rfl rfl (zaL zDj (zs:=[_,_,_,_,_,_,_,_,_,_,_,_,_,_,_,_,_,_,_,_,_,_,_,_,_,_,_,_,_,_,_,_,_,_,_,_,_,_,_,_]) rfl) fun b6=>(gN [0,4,5,6] rfl (za2 (R':=Box b6 (bls (List.replicate 40 false)) 110) 0 rfl (fun B w hA=>hA) (zas (zKT (zK1 (X:=List TrkR×List Bool×List Nat) (fun⟨L,D,Ms⟩=>[(0,.pointer (some ⟨lb,0,none⟩)),(4,.slice none 0 0),(5,.pointer (some ⟨b5,0,none⟩)),(6,.pointer (some ⟨b6,0,none⟩))]) (fun⟨L,D,Ms⟩=>[Dfrs Ms,Box b6 (bls D) 110,Go.K.Rows rowP L,Box b5 [.slice (some ⟨b18,0,none⟩) cs.length cs.length] 164,Row (some ⟨b18,0,none⟩) 3 cs.length 163 zLb L]) (fun⟨L,D,Ms⟩=>Ms) (fun⟨L,D,Ms⟩=>(Dij W cs.length frm (trkL L) D∧L.length=cs.length)) (fun⟨L,D,Ms⟩=>unseen D) ((trk0 cs.length frm),(List.replicate 40 false),[]) rfl ⟨rfl,rfl,rfl,rfl,trivial⟩ rfl ?_ ?_))))))))
 ·exact⟨zLQ h0 h1,zIW⟩
 ·rintro ⟨L,D,Ms⟩ hI
  obtain⟨hdij,hln⟩:=hI
  have hsl:D.length=40:=hdij.dl
  have hli:=zLm hp hbs80 hdij.imp hn40
  refine zas (gS (zaG rfl rfl (zaL tf3 (zs:=[_]) rfl) fun b7=>(zaA 0 tf3 rfl rfl (vs:=[_]) rfl rfl rfl rfl rfl (gN [0,4,5,6,7] rfl (zac (gS (gQ (zah 4 zLg rfl rfl rfl) (gQ (zaV (Tryz.underlying164) rfl) (gM rfl (gN [0,4,5,6,7,23,24,25] rfl (zas (zbf (X:=Int×Int) (fun⟨i,nx⟩=>[(0,.pointer (some ⟨lb,0,none⟩)),(4,.slice none 0 0),(5,.pointer (some ⟨b5,0,none⟩)),(6,.pointer (some ⟨b6,0,none⟩)),(7,.pointer (some ⟨b7,0,none⟩)),(23,.slice (some ⟨b18,0,none⟩) cs.length cs.length),(24,.int .i64 (cs.length:Int)),(25,.int .i64 i)]) (fun⟨i,nx⟩=>[Box b7 [.int .i64 nx] 3,Dfrs Ms,Box b6 (bls D) 110,Go.K.Rows rowP L,Box b5 [.slice (some ⟨b18,0,none⟩) cs.length cs.length] 164,Row (some ⟨b18,0,none⟩) 3 cs.length 163 zLb L]) (fun⟨i,nx⟩=>(0≤i∧i≤cs.length∧Sel (trkL L) D i.toNat nx)) (fun⟨i,nx⟩=>(cs.length - i).toNat) (0,-1) (sB rfl) rfl ?_ ?_))))))))))))
  ·exact⟨by omega,by omega,zMr⟩
  ·rintro ⟨i,nx⟩ hI
   obtain⟨i0,i1,hsel⟩:=hI
   have hsx:=zLU hsel
   refine gS (gQ (zbw rfl rfl) (gN [0,4,5,6,7,23,24,25,26] rfl (zac (zap rfl (fun hc26=>?_) (fun hc26=>?_)))))
   ·have hc26:=oT hc26
    refine zaq (zac (zas (gS (gM rfl (gQ (zn6 zLk rfl rfl (fun _ hw=>(zam zLa (hw.has (p:=5) rfl))) hln (by omega) (by omega)) (gQ (zbv (vs:=[_,_,_]) zLd rfl (fun _ hw=>(zam zLa (hw.has (p:=5) rfl))) (by omega) (by omega) rfl) (zaG rfl rfl (zaL zLd (zs:=[_,_,_]) rfl) fun b9=>(gA rfl (zaA 0 zLd rfl rfl (vs:=[_,_,_]) rfl rfl rfl rfl rfl (gN [0,4,5,6,7,8,9,23,24,25] rfl (zac (gZ 21 (ph_y (zab zLj rfl) (ph_y (zah 0 tf4 rfl rfl rfl) (ph_y (zaf rfl) (zaH rfl rfl (fun hgd=>by(try rw [hgd]); have hgd2:=hgd; (try simp only [aT,nT,dF] at hgd2); exact(zaf rfl)) (zaH rfl rfl (fun hgd=>by(try rw [hgd]); have hgd2:=hgd; (try simp only [aT,nT,dF] at hgd2); exact(zyK zAW rfl rfl (by omega) (by omega))) (zaH rfl rfl (fun hgd=>by(try rw [hgd]); have hgd2:=hgd; (try simp only [aT,nT,dF] at hgd2); exact(zzm (l:=D) (i:=i) tf4 rfl (fun _ hw=>hw.has (p:=3) rfl) (by first | omega | (rw [hsl]; omega)))) (zaH rfl rfl (fun hgd=>by(try rw [hgd]); have hgd2:=hgd; (try simp only [aT,nT,dF] at hgd2); exact(zbR rfl)) (ph_y (zaX rfl rfl rfl) (ph_y (zaf rfl) ?_)))))))))))))))))))))
    refine zaH rfl rfl (fun hgd=>by(try rw [hgd]); have hgd2:=hgd; (try simp only [aT,nT] at hgd2); exact(zah 1 tf3 rfl rfl rfl)) (zaH rfl rfl (fun hgd=>by(try rw [hgd]); have hgd2:=hgd; (try simp only [aT,nT] at hgd2); exact(zbw rfl rfl)) (zaH rfl rfl (fun hgd=>by(try rw [hgd]); have hgd2:=hgd; (try simp only [aT,nT] at hgd2); exact(zaf rfl)) (zc0 rfl rfl (fun hgd=>by(try rw [hgd]); have hgd2:=hgd; (try simp only [aT,nT,dF] at hgd2); exact(zat 0 zLd rfl rfl (vs:=[_,_,_]) rfl rfl)) (zc0 rfl rfl (fun hgd=>by(try rw [hgd]); have hgd2:=hgd; (try simp only [aT,nT,dF] at hgd2); exact(zah 5 zLg rfl rfl rfl)) (zc0 rfl rfl (fun hgd=>by(try rw [hgd]); have hgd2:=hgd; (try simp only [aT,nT,dF] at hgd2); exact(zah 1 tf3 rfl rfl rfl)) (zc0 rfl rfl (fun hgd=>by(try rw [hgd]); have hgd2:=hgd; (try simp only [aT,nT,dF] at hgd2); exact(zn6 zLk rfl rfl (fun _ hw=>(zam zLa (hw.has (p:=6) rfl))) hln (by omega) (by omega))) ?_))))))
    refine zc0 rfl rfl (fun hgd=>by(try rw [hgd]); have hgd2:=hgd; (try simp only [aT,nT,dF] at hgd2); exact(zbv (vs:=[_,_,_]) zLd rfl (fun _ hw=>(zam zLa (hw.has (p:=6) rfl))) (by omega) (by omega) rfl)) (zc0 rfl rfl (fun hgd=>by(try rw [hgd]); have hgd2:=hgd; (try simp only [aT,nT,dF] at hgd2); exact(zaJ (v:=.int .i64 (befT ((L.getD (i).toNat default).1) ((L.getD (nx).toNat default).1))) en93 rfl (fun w hw=>zLo ((L.getD (i).toNat default).1) ((L.getD (nx).toNat default).1) _ _ _ _ w (zam zy5 (zbV (f:=rowP) (hw.has (p:=4) rfl) (za0 (by omega)))) (Nat.le_trans (hli _ (by omega)).1 (by decide)) (zam zy5 (zbV (f:=rowP) (hw.has (p:=4) rfl) (za0 (by omega)))) (Nat.le_trans (hli _ (by omega)).1 (by decide))))) (zc0 rfl rfl (fun hgd=>by(try rw [hgd]); have hgd2:=hgd; (try simp only [aT,nT,dF] at hgd2); exact(zbw rfl rfl)) (zaH rfl rfl (fun hgd=>by(try rw [hgd]); have hgd2:=hgd; (try simp only [aT,nT] at hgd2); exact(zaR rfl rfl rfl)) (ph_y (zaX rfl rfl rfl) (gN [0,4,5,6,7,8,23,24,25,50] rfl (zap rfl (fun hc50=>?_) (fun hc50=>?_)))))))
    ·have hsel2:=zMt i0 hsel hc50
     refine zaa (gM rfl (zaA 1 tf3 rfl rfl (vs:=[_]) rfl rfl rfl rfl rfl (gN [0,4,5,6,7,23,24,25] rfl (zaa (gQ (zaY rfl rfl) (gM rfl (gN [0,4,5,6,7,23,24,25] rfl (zaK 0 rfl ?_))))))))
     exact za1 (i+1,_) (sB rfl) rfl ⟨by omega,by omega,hsel2⟩ (by simp only []; omega)
    ·have hsel2:=zMs i0 hsel hc50
     refine zaq (zaa (gQ (zaY rfl rfl) (gM rfl (gN [0,4,5,6,7,23,24,25] rfl (zaK 0 rfl ?_)))))
     exact za1 (i+1,_) (sB rfl) rfl ⟨by omega,by omega,hsel2⟩ (by simp only []; omega)
   ·have hc26:=oD hc26
    have hse:Sel (trkL L) D cs.length nx:=by rwa [show i.toNat=cs.length from by omega] at hsel
    refine za8 rfl (zac (gS (gQ (zah 0 tf3 rfl rfl rfl) (gQ (zbw rfl rfl) (gN [0,4,5,6,7,54] rfl (zap rfl (fun hc54=>?_) (fun hc54=>?_)))))))
    ·have hc54:=oT hc54
     have hnx:=(zLU hse).1
     have hbest:=zL2 hdij hcell (by rwa [show nx = -1 from by omega] at hse)
     refine gS (gQ (zah 4 zLg rfl rfl rfl) (gA rfl (gN [0,4,5,6,7] rfl (zaw (zKJ 1 rfl (zao 2 rfl (zao 4 rfl (zbT 2 (zBO (P:=Best W allM cs.length frm (trkL L)) hbest ?_)))))))))
     exact zbd ((some ⟨b18,0,none⟩),cs.length,L) 0 (zaC rfl (zau rfl)) (by rw [hln]) rfl
    ·have hc54:=oD hc54
     have n0:0≤nx:=by omega
     obtain⟨n1,n2,n3⟩:=zLN hse n0
     have hong:=zLC hcell hdij hn40 hse n0
     have hmu:=zy4 (s:=D) (i:=nx.toNat) (by omega) n3
     refine zaq (gS (gQ (zah 0 tf3 rfl rfl rfl) (gQ (zyK zAW rfl rfl (by omega) (by omega)) (zA9 (l:=D) (i:=nx) (v:=true) 2 tf4 rfl rfl rfl (by first | omega | (rw [hsl]; omega)) (gN [0,4,5,6,7] rfl (gS (gM rfl (gQ (zah 0 tf3 rfl rfl rfl) (zaG rfl rfl (zbm en60 rfl (fun w hw=>zHf lb nx w)) fun p60=>zbP (gN [0,4,5,6,7,60] rfl (zas (gK [0,4,5,6,7,60] rfl (zk1 (X:=List TrkR) (fun L2=>[Box p60.1 [.pointer (some ⟨lb,0,none⟩)] 106,Box p60.2 [.int .i64 nx] 3,Box b7 [.int .i64 nx] 3,Dfrs Ms,Box b6 (bls (D.set nx.toNat true)) 110,Go.K.Rows rowP L2,Box b5 [.slice (some ⟨b18,0,none⟩) cs.length cs.length] 164,Row (some ⟨b18,0,none⟩) 3 cs.length 163 zLb L2]) (fun n L2=>(L2.length=cs.length∧Ong W cs.length frm (trkL L2) (D.set nx.toNat true) nx n)) (fun L2=>False) [] L rfl en90 rfl rfl ⟨hln,hong⟩ (zGj p60.1 p60.2 nx lb wa fa wc fc W F ca ccap cs ba bcp bs hW) (fun L2 w hw=>⟨hw.has (p:=0) rfl,hw.has (p:=1) rfl,rH hlb hw,rH hWl hw⟩) (by intro a ha; obtain⟨c,_,rfl⟩:=List.mem_map.1 ha; rfl) rfl ?_ ?_ ?_ ?_)))))))))))))
     ·rintro R1 R2 rl U' w' n L2 args hget hR hrd hins hbeg
      obtain⟨hnl,rfl⟩:=zE4 hget
      obtain⟨hln2,hong2⟩:=hR
      obtain⟨⟨t0,t1⟩,e0,e1⟩:=zMm heff hcell hnl
      have hli:=zLm hp hbs80 hong2.imp hn40
      have hlx:=hli nx.toNat (by omega)
      have hxn:(extT (L2.getD nx.toNat default).1 ((outL W nx).getD n default)).l.length≤300000:=by show((L2.getD nx.toNat default).1.l++[((outL W nx).getD n default)]).length≤_; rw [lA]; simp only [lC,lN]; omega
      have hsl:(D.set nx.toNat true).length=40:=hong2.dl
      refine gK [5,6,7,61] rfl (zaa (zaG rfl rfl (zaL zyD (zs:=[_,_,_,_,_]) rfl) fun b10=>(zaA 0 zyD rfl rfl (vs:=[_,_,_,_,_]) rfl rfl rfl rfl rfl (gN [5,6,7,10] rfl (zbB 144 zzK 5 (zao 2 rfl (hbeg _ _ _ (zas (zac (zao 1 rfl (zCs [_] (ch [(15,Nat),(18,Nat),(13,(Option Addr×Nat)),(16,(Option Addr×Nat))]) 1000 20 [0,0,3,7,15,0,32,127,0,0,768,1792,3840,7936,0,16384,65280,131071,0,524287] [] rfl (fun _=>mixed) (by kernel_rfl) (zjK _ ⟨inferInstance,inferInstance,inferInstance,inferInstance,trivial⟩) (pY (fun ρ=>zah (b:=b5) (cs:=[.slice (some ⟨b18,0,none⟩) cs.length cs.length]) (e:=164) 8 zLg rfl (by kernel_rfl) rfl) (pY (fun ρ=>zah (b:=b7) (cs:=[.int .i64 nx]) (e:=3) 4 tf3 rfl (by kernel_rfl) rfl) (pY (fun ρ=>zn6 zLk rfl rfl (fun _ hw=>(zam zLa (hw.has (p:=9) (R:=Row (some ⟨b18,0,none⟩) 3 cs.length 163 zLb L2) (by simp only [zeS,tIs,okSt,rcf,zbe]; rfl)))) hln2 (by omega) (by omega)) (pY (fun ρ=>zbh zLi rfl (fun w hw=>zaO (i:=nx) (zam zLa (hw.has (p:=9) (R:=Row (some ⟨b18,0,none⟩) 3 cs.length 163 zLb L2) (by simp only [zeS,tIs,okSt,rcf,zbe]; rfl))))) ?_)))))))))))))))
      refine pY (fun ρ=>zbn tf3 rfl (fun _ hw=>(zam zLa (hw.has (p:=9) (R:=Row (some ⟨b18,0,none⟩) 3 cs.length 163 zLb L2) (by simp only [zeS,tIs,okSt,rcf,zbe]; rfl)))) (by omega) (by omega) rfl) (pY (fun ρ=>zab zDS rfl) (pY (fun ρ=>zah (b:=b10) (cs:=[.int .i64 ((outL W nx).getD n default).frm,.int .i64 ((outL W nx).getD n default).to,.int .i64 ((outL W nx).getD n default).brd,.int .i64 ((outL W nx).getD n default).way,.int .i64 ((outL W nx).getD n default).eff]) (e:=144) 1 tf3 rfl (by kernel_rfl) rfl) (pY (fun ρ=>zaY rfl rfl) (pY (fun ρ=>zah (b:=b5) (cs:=[.slice (some ⟨b18,0,none⟩) cs.length cs.length]) (e:=164) 8 zLg rfl (by kernel_rfl) rfl) (pY (fun ρ=>zah (b:=b7) (cs:=[.int .i64 nx]) (e:=3) 4 tf3 rfl (by kernel_rfl) rfl) (pY (fun ρ=>zn6 zLk rfl rfl (fun _ hw=>(zam zLa (hw.has (p:=9) (R:=Row (some ⟨b18,0,none⟩) 3 cs.length 163 zLb L2) (by simp only [zeS,tIs,okSt,rcf,zbe]; rfl)))) hln2 (by omega) (by omega)) (pY (fun ρ=>zbh zLe rfl (fun w hw=>zaO (i:=nx) (zam zLa (hw.has (p:=9) (R:=Row (some ⟨b18,0,none⟩) 3 cs.length 163 zLb L2) (by simp only [zeS,tIs,okSt,rcf,zbe]; rfl))))) ?_)))))))
      refine pY (fun ρ=>zbn zLt rfl (fun _ hw=>(zam zLa (hw.has (p:=9) (R:=Row (some ⟨b18,0,none⟩) 3 cs.length 163 zLb L2) (by simp only [zeS,tIs,okSt,rcf,zbe]; rfl)))) (by omega) (by omega) rfl) (zFx (R:=fun ρ=>Row none 5 0 144 zzK []) (fun u75=>.slice u75.1 (L2.getD (nx).toNat default).1.l.length u75.2) (fun u75=>Row u75.1 5 u75.2 144 zzK (L2.getD (nx).toNat default).1.l) 1000 rfl (by kernel_rfl) (by kernel_rfl) (fun _=>by kernel_rfl) (fun ρ=>zMa en94 rfl (fun w B hw hB hA=>zLI _ _ ((L2.getD (nx).toNat default).1.l) w B (zam zy5 (zbV (f:=rowP) (hw.has (p:=7) rfl) (za0 (by omega)))) (Nat.le_trans (hli _ (by omega)).1 (by decide)))) (pY (fun ρ=>zat (b:=b10) (cs:=[.int .i64 ((outL W nx).getD n default).frm,.int .i64 ((outL W nx).getD n default).to,.int .i64 ((outL W nx).getD n default).brd,.int .i64 ((outL W nx).getD n default).way,.int .i64 ((outL W nx).getD n default).eff]) (e:=144) 1 zyD rfl (by kernel_rfl) (vs:=[_,_,_,_,_]) rfl rfl) (zFy (fun ρ=>zaD rfl (zDz _ _ _ _ _) zy5 rfl) (fun ρ ρ' h=>⟨by rfl,by rfl⟩) ?_)))
      refine zFx (R:=fun ρ=>Row (ρ 13).1 5 (ρ 13).2 144 zzK (L2.getD (nx).toNat default).1.l) (fun z:(Option Addr×Nat)=>.slice z.1 ((L2.getD (nx).toNat default).1.l++[((outL W nx).getD n default)]).length z.2) (fun z=>Row z.1 5 z.2 144 zzK ((L2.getD (nx).toNat default).1.l++[((outL W nx).getD n default)])) 1000 rfl (by kernel_rfl) (by kernel_rfl) (fun _=>by kernel_rfl) (fun ρ=>zBZ (m:=[((outL W nx).getD n default)]) zGT zy5 rfl rfl (fun _ hw=>(zam zy5 (hw.has (p:=0) (R:=Row (some ⟨(ρ 15),0,none⟩) 5 1 144 zzK [((outL W nx).getD n default)]) (by simp only [zeS,tIs,okSt,rcf,zbe]; rfl)))) (by simp only [lC,lN]; (try unfold maxLen); have:=(hli nx.toNat (by omega)).1; omega) (by simp only [lC,lN]; (try unfold maxLen); have:=(hli nx.toNat (by omega)).1; omega)) (zAr (fun ρ=>zaI rfl (zLh _ _ _ _ _)) (fun ρ ρ' h=>by(first | rfl | (simp only [h 16 rfl]; done) | (simp only [h 16 rfl]; rfl))) (zFy (fun ρ=>zaL zLd (zs:=[_,_,_]) rfl) (fun ρ ρ' h=>⟨by rfl,by rfl⟩) ?_))
      refine zIb (R:=fun ρ=>Box (ρ 18) [.int .i64 0,.slice none 0 0,.bool false] 163) (A:=fun ρ=>Box (ρ 18) [.int .i64 (((L2.getD (nx).toNat default).1.eff)+((outL W nx).getD n default).eff),.slice (ρ 16).1 ((L2.getD (nx).toNat default).1.l++[((outL W nx).getD n default)]).length (ρ 16).2,.bool true] 163) 18 rfl rfl (fun _=>rfl) (fun ρ=>zex zLd rfl rfl (vs:=[_,_,_]) rfl rfl rfl rfl rfl) (fun ρ ρ' h=>by(first | rfl | (simp only [h 16 rfl,h 18 rfl]; done) | (simp only [h 16 rfl,h 18 rfl]; rfl))) ?_
      refine fun ρ=>zag (zf4 (X:=Nat×Nat×(Option Addr×Nat)×(Option Addr×Nat)) (ρ 15,ρ 18,ρ 13,ρ 16) (fun⟨b77,b11,u75,m78⟩=>[(5,.pointer (some ⟨b5,0,none⟩)),(6,.pointer (some ⟨b6,0,none⟩)),(10,.pointer (some ⟨b10,0,none⟩)),(11,.pointer (some ⟨b11,0,none⟩))]) (fun⟨b77,b11,u75,m78⟩=>[Box b11 [.int .i64 (((L2.getD (nx).toNat default).1.eff)+((outL W nx).getD n default).eff),.slice m78.1 ((L2.getD (nx).toNat default).1.l++[((outL W nx).getD n default)]).length m78.2,.bool true] 163,Row (some ⟨b77,0,none⟩) 5 1 144 zzK [((outL W nx).getD n default)],Row m78.1 5 m78.2 144 zzK ((L2.getD (nx).toNat default).1.l++[((outL W nx).getD n default)]),R2,Box b10 [.int .i64 ((outL W nx).getD n default).frm,.int .i64 ((outL W nx).getD n default).to,.int .i64 ((outL W nx).getD n default).brd,.int .i64 ((outL W nx).getD n default).way,.int .i64 ((outL W nx).getD n default).eff] 144,Box p60.1 [.pointer (some ⟨lb,0,none⟩)] 106,Box p60.2 [.int .i64 nx] 3,Box b7 [.int .i64 nx] 3,Dfrs Ms,Box b6 (bls (D.set nx.toNat true)) 110,Go.K.Rows rowP L2,Box b5 [.slice (some ⟨b18,0,none⟩) cs.length cs.length] 164,Row (some ⟨b18,0,none⟩) 3 cs.length 163 zLb L2]) ⟨rfl,rfl,rfl,rfl,trivial⟩ rfl ?_)
      rintro ⟨b77,b11,u75,m78⟩
      refine za2 (R':=Box b11 [.int .i64 ((extT (L2.getD nx.toNat default).1 ((outL W nx).getD n default)).eff),.slice m78.1 (extT (L2.getD nx.toNat default).1 ((outL W nx).getD n default)).l.length m78.2,.bool (extT (L2.getD nx.toNat default).1 ((outL W nx).getD n default)).there] 163) 0 rfl (fun B w hA=>by skip; exact hA) (za2 (R':=Row m78.1 5 m78.2 144 zzK (extT (L2.getD nx.toNat default).1 ((outL W nx).getD n default)).l) 2 rfl (fun B w hA=>by skip; exact hA) (zac (gZ 24 (ph_y (zab zzb rfl) (ph_y (zah 4 tf3 rfl rfl rfl) (ph_y (zyK zAW rfl rfl (by omega) (by omega)) (ph_y (zzm (l:=(D.set nx.toNat true)) (i:=((outL W nx).getD n default).to) tf4 rfl (fun _ hw=>hw.has (p:=9) rfl) (by first | omega | (rw [hsl]; omega))) (ph_y (zbR rfl) (ph_y (zaf rfl) (zaH rfl rfl (fun jj=>by(try rw [jj]); exact zah 11 zLg rfl rfl rfl) (zaH rfl rfl (fun jj=>by(try rw [jj]); exact zab zzb rfl) (zaH rfl rfl (fun jj=>by(try rw [jj]); exact zah 4 tf3 rfl rfl rfl) (zaH rfl rfl (fun jj=>by(try rw [jj]); exact zn6 zLk rfl rfl (fun _ hw=>(zam zLa (hw.has (p:=12) rfl))) hln2 (by omega) (by omega)) (zaH rfl rfl (fun jj=>by(try rw [jj]); exact zbh zLj rfl (fun w hw=>zaO (i:=((outL W nx).getD n default).to) (zam zLa (hw.has (p:=12) rfl)))) ?_))))))))))))))
      refine zaH rfl rfl (fun jj=>by(try rw [jj]); exact zbn tf4 rfl (fun _ hw=>(zam zLa (hw.has (p:=12) rfl))) (by omega) (by omega) rfl) (zaH rfl rfl (fun jj=>by(try rw [jj]); exact zbR rfl) (zaH rfl rfl (fun jj=>by(try rw [jj]); exact zaf rfl) (zc0 rfl rfl (fun jj=>by(try rw [jj]); exact zat 0 zLd rfl rfl (vs:=[_,_,_]) rfl rfl) (zc0 rfl rfl (fun jj=>by(try rw [jj]); exact zah 11 zLg rfl rfl rfl) (zc0 rfl rfl (fun jj=>by(try rw [jj]); exact zab zzb rfl) (zc0 rfl rfl (fun jj=>by(try rw [jj]); exact zah 4 tf3 rfl rfl rfl) (zc0 rfl rfl (fun jj=>by(try rw [jj]); exact zn6 zLk rfl rfl (fun _ hw=>(zam zLa (hw.has (p:=12) rfl))) hln2 (by omega) (by omega)) (zc0 rfl rfl (fun jj=>by(try rw [jj]); exact zbv (vs:=[_,_,_]) zLd rfl (fun _ hw=>(zam zLa (hw.has (p:=12) rfl))) (by omega) (by omega) rfl) ?_))))))))
      refine zc0 rfl rfl (fun jj=>by(try rw [jj]); exact zaJ (v:=.int .i64 (befT (extT (L2.getD nx.toNat default).1 ((outL W nx).getD n default)) ((L2.getD (((outL W nx).getD n default).to).toNat default).1))) en93 rfl (fun w hw=>zLo (extT (L2.getD nx.toNat default).1 ((outL W nx).getD n default)) ((L2.getD (((outL W nx).getD n default).to).toNat default).1) _ _ _ _ w (zam zy5 (hw.has (p:=2) rfl)) hxn (zam zy5 (zbV (f:=rowP) (hw.has (p:=10) rfl) (za0 (by omega)))) (Nat.le_trans (hli _ (by omega)).1 (by decide)))) (zc0 rfl rfl (fun jj=>by(try rw [jj]); exact zbw rfl rfl) (zaH rfl rfl (fun jj=>by(try rw [jj]); exact zaR rfl rfl rfl) (ph_y (zaX rfl rfl rfl) (gN [5,10,11,103] rfl (zap rfl (fun hc103=>?_) (fun hc103=>?_))))))
      ·
       refine zaa (gQ (zah 11 zLg rfl rfl rfl) (gQ (zab zzb rfl) (gQ (zah 4 tf3 rfl rfl rfl) (gQ (zat 0 zLd rfl rfl (vs:=[_,_,_]) rfl rfl) (gQ (zn6 zLk rfl rfl (fun _ hw=>(zam zLa (hw.has (p:=12) rfl))) hln2 (by omega) (by omega)) (zpR (x':=(((extT (L2.getD nx.toNat default).1 ((outL W nx).getD n default)),m78.1,m78.2):TrkR)) 12 zLa zLd rfl rfl (vs:=[_,_,_]) rfl rfl rfl (by omega) (by omega) (zag (zae (T':=[]) trivial (zao 2 rfl (zao 10 rfl (zbT 2 (za2 (R':=Go.K.Rows rowP (L2.set (((outL W nx).getD n default).to).toNat (((extT (L2.getD nx.toNat default).1 ((outL W nx).getD n default)),m78.1,m78.2):TrkR))) 0 rfl (fun B w hA=>zIV _ hA) ?_))))))))))))
       have hong4:=zMb hp hbs80 heff hcell hn40 h0 hong2 hnl (m78.1,m78.2) hc103
       have hln4:(L2.set (((outL W nx).getD n default).to).toNat (((extT (L2.getD nx.toNat default).1 ((outL W nx).getD n default)),m78.1,m78.2):TrkR)).length=cs.length:=by rw [List.length_set]; exact hln2
       refine zaK 1 rfl (zaK 1 rfl (zaK 2 rfl (zao 8 rfl (zao 8 rfl (zao 2 rfl (zao 8 rfl (zao 8 rfl (zao 8 rfl (zao 8 rfl (zao 8 rfl (zao 8 rfl ?_)))))))))))
       exact zb9 _ trivial rfl ⟨hln4,hong4⟩
      ·
       have hong4:=zMo heff hcell hong2 hnl hc103
       have hln4:=hln2
       refine zaq (zaK 0 rfl (zaK 0 rfl (zaK 0 rfl (zaK 1 rfl ?_))))
       exact zb9 _ trivial rfl ⟨hln4,hong4⟩
     ·intro Dm L2 hR
      obtain⟨hln2,hong2⟩:=hR
      have hdij2:=zL5 hcell hong2 (by rw [lM]; exact Nat.le_refl _)
      refine zao 4 rfl (zao 1 rfl (zbT 2 (zaK 1 rfl (zaK 1 rfl (zaK 1 rfl ?_)))))
      exact zK2 (L2,(D.set nx.toNat true),(Dm :: Ms)) rfl ⟨rfl,rfl,rfl,rfl,trivial⟩ rfl ⟨hdij2,hln2⟩ (by simp only []; omega)
     ·exact fun _ _ h=>h.elim
     ·exact fun _ _ _ _ h=>absurd h (by simp)
end Go.Proofs.YteepmmghanbllaaGreatDoor
namespace Go.Fld
open Go Go.K Go.Stn Go.Pln
structure Mor (x y:Anm):Prop where
 wide:y.wide≤x.wide
 high:y.high≤x.high
 step:x.step≤y.step
 leap:x.leap≤y.leap
 reach:x.reach≤y.reach
theorem zL4 {s:Sht} {shut:Bool} {g h:Int} {l:List Opn} {x y:Anm} (hm:Mor x y) {way:Int} (h2:(mayR s shut g h l x way).2=true):mayR s shut g h l y way=mayR s shut g h l x way:=by
 obtain⟨m1,m2,m3,m4,m5⟩:=hm
 by_cases k1:way = -1
 ·rw [zFv k1] at h2 ⊢; rw [zFv k1]
  unfold hopG at h2 ⊢
  simp only [aT,dT] at h2
  refine Prod.ext rfl ?_
  simp only
  rw [decide_eq_true h2.1,decide_eq_true h2.2,decide_eq_true (by omega:zzc s g≤y.leap),decide_eq_true (by omega:zy8 s s.height≤y.reach)]
 ·by_cases k2:way < 0∨(l.length:Int)≤way
  ·rw [zCv k1 k2] at h2; cases h2
  ·by_cases k3:(l.getD way.toNat default).width < x.wide
   ·rw [zCX k1 k2 k3] at h2; cases h2
   ·have k3':¬ (l.getD way.toNat default).width < y.wide:=by omega
    by_cases k4:(l.getD way.toNat default).kind=4
    ·rw [zCW k1 k2 k3 k4,zCW k1 k2 k3' k4]
    ·by_cases k5:(l.getD way.toNat default).kind=3
     ·rw [zBR k1 k2 k3 k4 k5] at h2 ⊢; rw [zBR k1 k2 k3' k4 k5]
      simp only [aT,dT] at h2
      refine Prod.ext rfl ?_
      simp only
      rw [decide_eq_true h2.1,decide_eq_true h2.2,decide_eq_true (by omega:_≤y.leap),decide_eq_true (by omega:_≤y.reach)]
     ·rw [zCV k1 k2 k3 k4 k5] at h2 ⊢; rw [zCV k1 k2 k3' k4 k5]
      simp only [aT,dT] at h2
      refine Prod.ext rfl ?_
      simp only
      rw [decide_eq_true h2.1,decide_eq_true h2.2,decide_eq_true (by omega:_≤y.step),decide_eq_true (by omega:y.high≤_)]
section
variable {S:List ShC} {V:List WlC} {cs:List ByteArray} {bs:List Bdr} {x y:Anm} {frm:Int}
theorem zLW (h:zym S V cs bs x=true) (h2:zym S V cs bs y=true) (hm:Mor x y):∀ {l:List Crg} {a b:Int},Wk (zyj S V bs x) allM a l b→∃ p,Wk (zyj S V bs y) allM a p b∧effL p≤effL l
 | [],a,b,hw=>⟨[],⟨hw.chn,fun _ h=>by cases h⟩,Int.le_refl _⟩
 | c :: l,a,b,hw=>by
  obtain⟨p,p1,p2⟩:=zLW h h2 hm (l:=l) ⟨hw.chn.2,fun d hd=>hw.use d (mM _ hd)⟩
  obtain⟨u1,u2,_⟩:=hw.use c (mS ..)
  obtain⟨i,back,hi,e,eb,e1,e2⟩:=zL1 h u1
  have hmay:=zJX h (i:=(i:Int)) (by omega) (by omega) back (by rw [←e]; exact u2)
  have hmy:mayB S V y (bs.getD ((i:Int)).toNat default) back (wayI S V bs x i back).way=((wayI S V bs x i back).eff,true):=by
   rw [←hmay]; exact zL4 hm (by show(mayB S V x _ back _).2=true; rw [hmay])
  obtain⟨w1,w2⟩:=zMe h2 (i:=(i:Int)) (by omega) (by omega) back (by rw [hmy])
  rw [hmy] at w2
  obtain⟨c1,c2,c3,c4⟩:=zJV h2 hi back
  have hf:(wayI S V bs y i back).frm=c.frm:=by
   rw [c3]; cases back
   ·exact(e1 rfl).1.symm
   ·exact(e2 rfl).1.symm
  have ht:(wayI S V bs y i back).to=c.to:=by
   rw [c4]; cases back
   ·exact(e1 rfl).2.symm
   ·exact(e2 rfl).2.symm
  refine⟨wayI S V bs y i back :: p,⟨⟨hf.trans hw.chn.1,by rw [ht]; exact p1.chn⟩,fun d hd=>?_⟩,?_⟩
  ·rcases List.mem_cons.1 hd with h3 | h3
   ·rw [h3]; exact⟨c1,w1,rfl⟩
   ·exact p1.use d h3
  ·show(wayI S V bs y i back).eff+effL p≤c.eff+effL l
   rw [←e] at w2
   simp only at w2
   omega
theorem zLF (h:zym S V cs bs x=true) (h2:zym S V cs bs y=true) (hm:Mor x y) {n:Nat} {T U:List Trk} (hT:Best (zyj S V bs x) allM n frm T) (hU:Best (zyj S V bs y) allM n frm U) {i:Nat} (hi:i < n) (ht:(T.getD i default).there=true) :
  (U.getD i default).there=true∧(U.getD i default).eff≤(T.getD i default).eff:=by
 obtain⟨a1,a2⟩:=hT.wk i hi ht
 obtain⟨p,p1,p2⟩:=zLW h h2 hm a1
 obtain⟨b1,b2⟩:=zJq hU p p1
 rw [Int.toNat_natCast] at b1 b2
 have:=zKd b2
 exact⟨b1,by rw [a2]; exact Int.le_trans this p2⟩
def farN (T:List Trk):Nat→Int
 | 0=>0
 | n+1=>max (farN T n) (T.getD n default).eff
def prfN (T:List Trk) (far:Int) (n:Nat):List Int:=(List.range n).map fun i=>if (T.getD i default).there=true then(T.getD i default).eff else far+1
def prfL (T:List Trk):List Int:=prfN T (farN T T.length) T.length
end
section
variable {W:List (Crg×Crg)} {may:Crg→Bool} {n:Nat} {frm:Int} {bs:List Bdr}
theorem zLX (hp:zyI W bs) (hbs:bs.length≤80) (he:zJJ W) (hw:zIB W n) (hn:n≤40) (h0:0≤frm) (h1:frm < n):∃ T,Best W may n frm T∧Imp W may n frm T:=by
 have key:∀ (m:Nat) (T:List Trk),zIj T=m→Imp W may n frm T→∃ T,Best W may n frm T∧Imp W may n frm T:=by
  intro m
  induction m using Nat.strongRecOn with
  | _ m ih=>
   intro T hm h
   by_cases hf:∀ c,zIm W may c→(T.getD c.frm.toNat default).there=true→zIg (extT (T.getD c.frm.toNat default) c) (T.getD c.to.toNat default)=false
   ·exact⟨T,zJv h hf,h⟩
   ·obtain⟨c,hc⟩:=Classical.not_forall.1 hf
    obtain⟨hu,hc⟩:=Classical.not_imp.1 hc
    obtain⟨ht,hl⟩:=Classical.not_imp.1 hc
    obtain⟨a,b⟩:=zJw hp hbs he hw hn h0 h hu ht (by simpa using hl)
    exact ih _ (hm ▸ b) _ rfl a
 exact key _ _ rfl (zJc h0 h1)
end
section
variable (S:List ShC) (V:List WlC) (cs:List ByteArray) (bs:List Bdr) (x:Anm) (frm to:Int) (T:List Trk)
def bwT:Trk:=if atE S V cs bs x [frm,to]=0 then T.getD to.toNat default else default
def bwE:Int:=if atE S V cs bs x [frm,to]=0 then(if (T.getD to.toNat default).there=true then 0 else 8) else atE S V cs bs x [frm,to]
def prfA:List Int:=if bwE S V cs bs x frm to T=0 then prfL T else []
def BstA:Prop:=atE S V cs bs x [frm,to]=0→Best (zyj S V bs x) allM cs.length frm T∧Imp (zyj S V bs x) allM cs.length frm T
end
section
variable {S S2:List ShC} {V V2:List WlC} {cs:List ByteArray} {bs:List Bdr} {x:Anm} {frm to:Int} {T:List Trk}
theorem zLS (S:List ShC) (V:List WlC) (cs:List ByteArray) (bs:List Bdr) (x:Anm) (frm:Int):∃ T,∀ to,BstA S V cs bs x frm to T:=by
 by_cases h:zym S V cs bs x=true∧0≤frm∧frm < cs.length
 ·obtain⟨hok,h0,h1⟩:=h
  obtain⟨_,hcs,hbs,_⟩:=zzD hok
  obtain⟨T,hT⟩:=zLX (may:=allM) (zBa hok) hbs (zI5 hok) (zIr hok) hcs.2 h0 h1
  exact⟨T,fun _ _=>hT⟩
 ·refine⟨[],fun to ha=>absurd ?_ h⟩
  obtain⟨hok,hin,_⟩:=zDr ha
  exact⟨hok,zCw hin frm (by simp)⟩
theorem zMh (h:¬ atE S V cs bs x [frm,to]=0):bwT S V cs bs x frm to T=default∧bwE S V cs bs x frm to T=atE S V cs bs x [frm,to]∧prfA S V cs bs x frm to T=[]:=by
 refine⟨if_neg h,if_neg h,?_⟩
 unfold prfA bwE
 rw [if_neg h,if_neg h]
theorem zMi (h:atE S V cs bs x [frm,to]=0) (hb:Best (zyj S V bs x) allM cs.length frm T) (ht:(T.getD to.toNat default).there=false):bwT S V cs bs x frm to T=default∧bwE S V cs bs x frm to T=8∧prfA S V cs bs x frm to T=[]:=by
 obtain⟨hok,hin,_⟩:=zDr h
 have ht1:=zCw hin to (by simp)
 have e:bwE S V cs bs x frm to T=8:=by unfold bwE; rw [if_pos h,if_neg (by rw [ht]; exact fT)]
 refine⟨?_,e,?_⟩
 ·unfold bwT; rw [if_pos h,hb.no _ (by omega) ht]
 ·unfold prfA; rw [e,if_neg (by decide)]
theorem zLw (h:atE S V cs bs x [frm,to]=0) (ht:(T.getD to.toNat default).there=true):bwT S V cs bs x frm to T=T.getD to.toNat default∧bwE S V cs bs x frm to T=0∧prfA S V cs bs x frm to T=prfL T:=by
 have e:bwE S V cs bs x frm to T=0:=by unfold bwE; rw [if_pos h,if_pos ht]
 exact⟨if_pos h,e,if_pos e⟩
end
end Go.Fld
namespace Go.Proofs.YteepmmghanbllaaGreatDoor
open Go.K Go.Stn Go.Pln Go.Fld Go.RowKit
theorem en65:En Tryz.prog 65:=eK Tryz.func65
theorem zMd (a:Option Addr) (cap:Nat) (S:List ShC) (b:Option Addr) (bcap:Nat) (V:List WlC) (ca:Option Addr) (ccap:Nat) (cs:List ByteArray) (ba:Option Addr) (bcp:Nat) (bs:List Bdr) (x:Anm) (frm to:Int) (T:List Trk) (w:World) (hl:Has w (zaW a 20 zbH S)) (hs:zaP S.length) (hcS:S.length≤cap) (hlw:Has w (zaW b 4 zbS V)) (hsw:zaP V.length) (hsh:∀ z∈S,Has w (Ints z.a z.s.heights)) (hss:∀ z∈S,zaP z.s.heights.length) (hwo:∀ z∈V,Has w (zaW z.a 5 zba z.s.opens)) (hsv:∀ z∈V,zaP z.s.opens.length) (hcp:∀ z∈V,z.s.opens.length≤z.cap) (hkn:∀ z∈V,∀ o∈z.s.opens,Knd o) (hc:Has w (zaW ca 1 encS cs)) (hcs:zaP cs.length) (hcap:cs.length≤ccap) (hbd:Has w (zaW ba 6 zyr bs)) (hbs:zaP bs.length) (hT:BstA S V cs bs x frm to T) (hat:atE S V cs bs x [frm,to]=0) :
  Calls Tryz.prog 36 #[.agg #[.slice a S.length cap,.slice b V.length bcap],.agg #[.slice ca cs.length ccap,.slice ba bs.length bcp],.agg #[.int .i64 x.wide,.int .i64 x.high,.int .i64 x.step,.int .i64 x.leap,.int .i64 x.reach],.int .i64 frm,.int .i64 to] w (zcU (fun z:Option Addr×Nat=>.tuple #[.slice z.1 (stpL (bwT S V cs bs x frm to T).l).length z.2,.int .i64 (bwT S V cs bs x frm to T).eff,.int .i64 (bwE S V cs bs x frm to T)]) (fun z=>Row z.1 2 z.2 159 zyQ (stpL (bwT S V cs bs x frm to T).l)) w):=by
 obtain⟨hok,hin,hcs40,hbs80⟩:=zDr hat
 obtain⟨f0,f1⟩:=zCw hin frm (by simp)
 obtain⟨t0,t1⟩:=zCw hin to (by simp)
 have hlw_:(zyj S V bs x).length=bs.length:=zz5
 have hWs:zaP (zyj S V bs x).length:=by unfold zaP; omega
 have hp:=zBa hok
 have heff:=zI5 hok
 have hcell:=zIr hok
 refine zan (vs:=[_,_,_,_,_]) Tryz.func36 rfl rfl (bL rfl) (gS (zaG rfl rfl (za3 (vs:=[_,_]) rfl rfl) fun b5=>(zaG rfl rfl (za3 (vs:=[_,_]) rfl rfl) fun b6=>(zaG rfl rfl (za3 (vs:=[_,_,_,_,_]) rfl rfl) fun b7=>(gA rfl (gA rfl (gA rfl (gN [3,4,5,6,7,10,11,12] rfl (gS (gQ (zat 2 tf37 rfl rfl (vs:=[_,_]) rfl rfl) (gQ (zat 1 tf40 rfl rfl (vs:=[_,_]) rfl rfl) (gQ (zat 0 tf41 rfl rfl (vs:=[_,_,_,_,_]) rfl rfl) (gM rfl (gM rfl (zaG rfl rfl (zaD rfl (zDC _ _) Go.Stn.encI_ok rfl) fun b21=>(zaG rfl rfl (zbm en46 rfl (fun w hw=>zFH _ _ S _ _ V _ _ cs _ _ bs x _ _ [frm,to] w (rH hl hw) hs hcS (rH hlw hw) hsw (fun z hz=>(rH (hsh z hz) hw)) hss (fun z hz=>(rH (hwo z hz) hw)) hsv hcp hkn (rH hc hw) hcs hcap (rH hbd hw) hbs (zam Go.Stn.encI_ok (hw.has (p:=0) rfl)) (by simp [zaP]) hok hin)) fun p22=>(gM rfl (gQ (zaB rfl rfl) (gQ (zaB rfl rfl) (gA rfl (gA rfl (gN [3,4,10,11,12,13] rfl ?_))))))))))))))))))))))
 obtain⟨lb,⟨wa,wc⟩,⟨fa,fc⟩,F⟩:=p22
 refine zz4 fun hF=>zbP ?_
 have hF:F.map (·.2)=(zzS S V bs x):=hF
 refine zac (gS (gM rfl (gQ (zcr rfl rfl) (gN [3,4,10,11,12,13,26] rfl (zd8 rfl (zaq (gS (gM rfl (gM rfl (zaG rfl rfl (zbm en65 rfl (fun w hw=>zLP ca ccap cs ba bcp bs lb wa fa wc fc (zyj S V bs x) F frm w (hw.has (p:=0) rfl) (zam zyl (hw.has (p:=1) rfl)) hWs hp hbs80 heff hcell hcs40 f0 f1)) fun p30=>?_))))))))))
 obtain⟨ta,tc,L⟩:=p30
 refine zz4 fun hB=>zbP ?_
 have hB:Best (zyj S V bs x) allM cs.length frm (trkL L):=hB
 have hLT:trkL L=T:=zLG hp hB (hT hat).1
 have hIm:Imp (zyj S V bs x) allM cs.length frm (trkL L):=by rw [hLT]; exact(hT hat).2
 have hli:=zLm hp hbs80 hIm hcs40
 have hLl:L.length=cs.length:=by have h:=hB.len; rwa [lM] at h
 have hbw:(L.getD to.toNat default).1=T.getD to.toNat default:=by rw [←hLT,zIe]
 refine za2 (R':=Row ta 3 tc 163 zLb L) 0 rfl (fun B w hA=>hA) (za2 (R':=Go.K.Rows rowP L) 1 rfl (fun B w hA=>hA) (zae (T':=[(3,_),(4,_),(10,_),(11,_),(12,_),(13,_),(26,_),(28,_),(29,_),(30,.slice ta L.length tc)]) ⟨rfl,rfl,rfl,rfl,rfl,rfl,rfl,rfl,rfl,(by rfl),trivial⟩ (gM rfl (gQ (zaE zLk rfl rfl (fun _ hw=>(zam zLa (hw.has (p:=0) rfl)))) (gQ (zbv (vs:=[_,_,_]) zLd rfl (fun _ hw=>(zam zLa (hw.has (p:=0) rfl))) (by omega) (by omega) rfl) (zaG rfl rfl (zaL zLd (zs:=[_,_,_]) rfl) fun b14=>(zaA 0 zLd rfl rfl (vs:=[_,_,_]) rfl rfl rfl rfl rfl (gN [10,11,12,14] rfl (zac (gS (gQ (zab zLj rfl) (gQ (zah 0 tf4 rfl rfl rfl) (gQ (zbR rfl) (gN [10,11,12,14,36] rfl (zap rfl (fun hc36=>?_) (fun hc36=>?_))))))))))))))))
 ·have hth:(T.getD to.toNat default).there=false:=by rw [←hbw]; simpa using hc36
  obtain⟨hA1,hA2,_⟩:=zMi hat (hT hat).1 hth
  refine gS (gA rfl (gA rfl (gA rfl (gN [10,11,12,14] rfl (zaw (zbB 159 zyQ 2 ?_))))))
  exact zbd (none,0) 0 (zdh rfl (zau rfl) (zau rfl) (zau rfl)) (by rw [hA1,hA2]; rfl) (by rw [hA1]; rfl)
 ·have hth:(T.getD to.toNat default).there=true:=by rw [←hbw]; simpa using hc36
  obtain⟨hA1,hA2,_⟩:=zLw hat hth
  refine zaq (zac (zCs [] (ch [(2,(Option Addr×Nat))]) 1000 8 [0,1,3,0,8,7,63,127] [] rfl (fun _=>mixed) (by kernel_rfl) (zjK _ ⟨inferInstance,trivial⟩) (pY (fun ρ=>zab zLe rfl) (pY (fun ρ=>zah (b:=b14) (cs:=[.int .i64 ((L.getD (to).toNat default).1.eff),.slice (L.getD (to).toNat default).2.1 (L.getD (to).toNat default).1.l.length (L.getD (to).toNat default).2.2,.bool (L.getD (to).toNat default).1.there]) (e:=163) 0 zLt rfl (by kernel_rfl) rfl) (zFy (fun ρ=>zbm en57 rfl (fun w hw=>zGF _ _ (L.getD to.toNat default).1.l w (zam zy5 (zbV (f:=rowP) (hw.has (p:=2) rfl) (za0 (by omega)))) (by unfold zaP; have:=(hli to.toNat (by omega)).1; omega))) (fun ρ ρ' h=>⟨by rfl,by rfl⟩) (pY (fun ρ=>zab zLi rfl) (pY (fun ρ=>zah (b:=b14) (cs:=[.int .i64 ((L.getD (to).toNat default).1.eff),.slice (L.getD (to).toNat default).2.1 (L.getD (to).toNat default).1.l.length (L.getD (to).toNat default).2.2,.bool (L.getD (to).toNat default).1.there]) (e:=163) 0 tf3 rfl (by kernel_rfl) rfl) (zAr (fun ρ=>zad rfl) (fun ρ ρ' h=>by(first | rfl | (simp only [h 2 rfl]; done) | (simp only [h 2 rfl]; rfl))) (pY (fun ρ=>zad rfl) (pY (fun ρ=>zad rfl) ?_))))))))))
  refine fun ρ=>zag (zf4 (X:=(Option Addr×Nat)) (ρ 2) (fun p39=>[(10,.slice p39.1 (stpL (L.getD to.toNat default).1.l).length p39.2),(11,.int .i64 ((L.getD (to).toNat default).1.eff)),(12,.int .i64 0)]) (fun p39=>[Row p39.1 2 p39.2 159 zyQ (stpL (L.getD to.toNat default).1.l),Box b14 [.int .i64 ((L.getD (to).toNat default).1.eff),.slice (L.getD (to).toNat default).2.1 (L.getD (to).toNat default).1.l.length (L.getD (to).toNat default).2.2,.bool (L.getD (to).toNat default).1.there] 163,Row ta 3 tc 163 zLb L,Go.K.Rows rowP L,Box lb [.slice ca cs.length ccap,.slice ba bs.length bcp,.slice wa (zyj S V bs x).length wc,.slice fa (F.map (·.1)).length fc] 128,Row wa 10 wc 148 zyw (zyj S V bs x),Row fa 1 fc 124 zy6 (F.map (·.1)),Go.K.Rows rowM F,Row (some ⟨b21,0,none⟩) 1 2 3 Go.Stn.encI [frm,to],Box b7 [.int .i64 x.wide,.int .i64 x.high,.int .i64 x.step,.int .i64 x.leap,.int .i64 x.reach] 41,Box b6 [.slice ca cs.length ccap,.slice ba bs.length bcp] 40,Box b5 [.slice a S.length cap,.slice b V.length bcap] 37]) ⟨rfl,rfl,rfl,trivial⟩ rfl ?_)
  rintro p39
  refine zaw (zbd p39 0 (zdh rfl (zau rfl) (zau rfl) (zau rfl)) ?_ (by rw [hA1,←hbw]; rfl))
  rw [hA1,hA2,←hbw]
theorem zMc (a:Option Addr) (cap:Nat) (S:List ShC) (b:Option Addr) (bcap:Nat) (V:List WlC) (ca:Option Addr) (ccap:Nat) (cs:List ByteArray) (ba:Option Addr) (bcp:Nat) (bs:List Bdr) (x:Anm) (frm to:Int) (_T:List Trk) (w:World) (hl:Has w (zaW a 20 zbH S)) (hs:zaP S.length) (hcS:S.length≤cap) (hlw:Has w (zaW b 4 zbS V)) (hsw:zaP V.length) (hsh:∀ z∈S,Has w (Ints z.a z.s.heights)) (hss:∀ z∈S,zaP z.s.heights.length) (hwo:∀ z∈V,Has w (zaW z.a 5 zba z.s.opens)) (hsv:∀ z∈V,zaP z.s.opens.length) (hcp:∀ z∈V,z.s.opens.length≤z.cap) (hkn:∀ z∈V,∀ o∈z.s.opens,Knd o) (hc:Has w (zaW ca 1 encS cs)) (hcs:zaP cs.length) (hcap:cs.length≤ccap) (hbd:Has w (zaW ba 6 zyr bs)) (hbs:zaP bs.length) (hne:¬ atE S V cs bs x [frm,to]=0) :
  Calls Tryz.prog 36 #[.agg #[.slice a S.length cap,.slice b V.length bcap],.agg #[.slice ca cs.length ccap,.slice ba bs.length bcp],.agg #[.int .i64 x.wide,.int .i64 x.high,.int .i64 x.step,.int .i64 x.leap,.int .i64 x.reach],.int .i64 frm,.int .i64 to] w (Pure (.tuple #[.slice none 0 0,.int .i64 0,.int .i64 (atE S V cs bs x [frm,to])]) w):=by
 refine zan (vs:=[_,_,_,_,_]) Tryz.func36 rfl rfl (bL rfl) (gS (zaG rfl rfl (za3 (vs:=[_,_]) rfl rfl) fun b5=>(zaG rfl rfl (za3 (vs:=[_,_]) rfl rfl) fun b6=>(zaG rfl rfl (za3 (vs:=[_,_,_,_,_]) rfl rfl) fun b7=>(gA rfl (gA rfl (gA rfl (gN [3,4,5,6,7,10,11,12] rfl (gS (gQ (zat 2 tf37 rfl rfl (vs:=[_,_]) rfl rfl) (gQ (zat 1 tf40 rfl rfl (vs:=[_,_]) rfl rfl) (gQ (zat 0 tf41 rfl rfl (vs:=[_,_,_,_,_]) rfl rfl) (gM rfl (gM rfl (zaG rfl rfl (zaD rfl (zDC _ _) Go.Stn.encI_ok rfl) fun b21=>(zaG rfl rfl (zbm en46 rfl (fun w hw=>zDs _ _ S _ _ V _ _ cs _ _ bs x _ _ [frm,to] w (rH hl hw) hs hcS (rH hlw hw) hsw (fun z hz=>(rH (hsh z hz) hw)) hss (fun z hz=>(rH (hwo z hz) hw)) hsv hcp hkn (rH hc hw) hcs hcap (rH hbd hw) hbs (zam Go.Stn.encI_ok (hw.has (p:=0) rfl)) (by simp [zaP]) hne)) fun p22=>(gM rfl (gQ (zaB rfl rfl) (gQ (zaB rfl rfl) (gA rfl (gA rfl (gN [3,4,10,11,12,13] rfl (zac (gS (gM rfl (gQ (zcr rfl rfl) (gN [3,4,10,11,12,13,26] rfl (zap rfl (fun hc26=>?_) (fun hc26=>?_)))))))))))))))))))))))))))))
 ·simp only [nT,dF] at hc26
  refine gS (gM rfl (gA rfl (gA rfl (gA rfl (gN [3,4,10,11,12,13] rfl (zaw (zay (zdh rfl (zau rfl) (zau rfl) (zau rfl)) ?_)))))))
  rfl
 ·exfalso; exact hne (by simpa using hc26)
theorem zLV (a:Option Addr) (cap:Nat) (S:List ShC) (b:Option Addr) (bcap:Nat) (V:List WlC) (ca:Option Addr) (ccap:Nat) (cs:List ByteArray) (ba:Option Addr) (bcp:Nat) (bs:List Bdr) (x:Anm) (frm to:Int) (T:List Trk) (w:World) (hl:Has w (zaW a 20 zbH S)) (hs:zaP S.length) (hcS:S.length≤cap) (hlw:Has w (zaW b 4 zbS V)) (hsw:zaP V.length) (hsh:∀ z∈S,Has w (Ints z.a z.s.heights)) (hss:∀ z∈S,zaP z.s.heights.length) (hwo:∀ z∈V,Has w (zaW z.a 5 zba z.s.opens)) (hsv:∀ z∈V,zaP z.s.opens.length) (hcp:∀ z∈V,z.s.opens.length≤z.cap) (hkn:∀ z∈V,∀ o∈z.s.opens,Knd o) (hc:Has w (zaW ca 1 encS cs)) (hcs:zaP cs.length) (hcap:cs.length≤ccap) (hbd:Has w (zaW ba 6 zyr bs)) (hbs:zaP bs.length) (hT:BstA S V cs bs x frm to T):Calls Tryz.prog 36 #[.agg #[.slice a S.length cap,.slice b V.length bcap],.agg #[.slice ca cs.length ccap,.slice ba bs.length bcp],.agg #[.int .i64 x.wide,.int .i64 x.high,.int .i64 x.step,.int .i64 x.leap,.int .i64 x.reach],.int .i64 frm,.int .i64 to] w (zcU (fun z:Option Addr×Nat=>.tuple #[.slice z.1 (stpL (bwT S V cs bs x frm to T).l).length z.2,.int .i64 (bwT S V cs bs x frm to T).eff,.int .i64 (bwE S V cs bs x frm to T)]) (fun z=>Row z.1 2 z.2 159 zyQ (stpL (bwT S V cs bs x frm to T).l)) w):=by
 by_cases hat:atE S V cs bs x [frm,to]=0
 ·exact zMd a cap S b bcap V ca ccap cs ba bcp bs x frm to T w hl hs hcS hlw hsw hsh hss hwo hsv hcp hkn hc hcs hcap hbd hbs hT hat
 ·obtain⟨e1,e2,_⟩:=zMh (T:=T) hat
  rw [e1,e2]
  exact(zMc a cap S b bcap V ca ccap cs ba bcp bs x frm to T w hl hs hcS hlw hsw hsh hss hwo hsv hcp hkn hc hcs hcap hbd hbs hat).mono fun e' w' h=>zAe (none,0) h rfl (fun _=>zAR)
end Go.Proofs.YteepmmghanbllaaGreatDoor
namespace Go.Fld
open Go Go.K Go.Stn Go.Pln
def strA (x:Anm) (m0 m1 m2 m3 m4:Int):Anm:=⟨max 0 (x.wide - m0),max 0 (x.high - m1),min 10000 (x.step+m2),min 10000 (x.leap+m3),min 10000 (x.reach+m4)⟩
theorem zLv {x:Anm} (h:zBE x=true):(0≤x.wide∧x.wide≤10000)∧(0≤x.high∧x.high≤10000)∧(0≤x.step∧x.step≤10000)∧(0≤x.leap∧x.leap≤10000)∧0≤x.reach∧x.reach≤10000:=by
 unfold zBE zC8 inZ at h
 simp only [List.any_cons,List.any_nil,Bool.or_false,nT,oF,nF,aT,dT] at h
 omega
theorem zMf {x:Anm} (h:(0≤x.wide∧x.wide≤10000)∧(0≤x.high∧x.high≤10000)∧(0≤x.step∧x.step≤10000)∧(0≤x.leap∧x.leap≤10000)∧0≤x.reach∧x.reach≤10000):zBE x=true:=by
 unfold zBE zC8 inZ
 simp only [List.any_cons,List.any_nil,Bool.or_false,nT,oF,nF,aT,dT]
 exact⟨h.1,h.2.1,h.2.2.1,h.2.2.2.1,h.2.2.2.2⟩
section
variable {S:List ShC} {V:List WlC} {cs:List ByteArray} {bs:List Bdr} {x y:Anm} {frm to m0 m1 m2 m3 m4:Int} {T U:List Trk}
theorem zLK (hok:zym S V cs bs x=true) (hy:zBE y=true):zym S V cs bs y=true:=by
 obtain⟨h1,h2,h3,_,h5,h6⟩:=zzD hok
 refine zCU ?_ h5 h6
 unfold zy1 inZ
 rw [h1,hy,decide_eq_true (by omega:(1:Int)≤cs.length),decide_eq_true (by omega:(cs.length:Int)≤40),decide_eq_false (by omega:¬ (80:Int) < bs.length)]; rfl
theorem zL9 (hok:zym S V cs bs x=true) (h0:0≤m0) (h1:0≤m1) (h2:0≤m2) (h3:0≤m3) (h4:0≤m4):Mor x (strA x m0 m1 m2 m3 m4)∧zym S V cs bs (strA x m0 m1 m2 m3 m4)=true:=by
 obtain⟨b0,b1,b2,b3,b4⟩:=zLv (zzD hok).2.2.2.1
 refine⟨⟨?_,?_,?_,?_,?_⟩,zLK hok (zMf ⟨?_,?_,?_,?_,?_⟩)⟩ <;> simp only [strA] <;> omega
theorem zMn (hok:zym S V cs bs x=true) (hok2:zym S V cs bs y=true) (hm:Mor x y) (hT:BstA S V cs bs x frm to T) (hU:BstA S V cs bs y frm to U) :
  (decide (bwE S V cs bs x frm to T=0)&&((!decide (bwE S V cs bs y frm to U=0))||decide ((bwT S V cs bs x frm to T).eff < (bwT S V cs bs y frm to U).eff)))=false:=by
 by_cases ha:atE S V cs bs x [frm,to]=0
 ·have hin:=(zDr ha).2.1
  have ha2:atE S V cs bs y [frm,to]=0:=zFF hok2 hin
  have ht:=zCw hin to (by simp)
  cases e:(T.getD to.toNat default).there with
  | false=>rw [(zMi ha (hT ha).1 e).2.1]; rfl
  | true=>
   obtain⟨a1,a2⟩:=zLF hok hok2 hm (hT ha).1 (hU ha2).1 (i:=to.toNat) (by omega) e
   obtain⟨t1,t2,_⟩:=zLw (T:=T) ha e
   obtain⟨u1,u2,_⟩:=zLw (T:=U) ha2 a1
   rw [t1,t2,u1,u2,decide_eq_false (by omega:¬ (T.getD to.toNat default).eff < (U.getD to.toNat default).eff)]; rfl
 ·have e:¬ bwE S V cs bs x frm to T=0:=by rw [(zMh ha).2.1]; exact ha
  rw [decide_eq_false e]; rfl
end
end Go.Fld