/- What the proof of the root text leans on, part 5: the layer, plain facts and walks. No statement of the seat is proved in this text. -/
import Derived.Test.YteepmmghanbllaaGreatDoorFr4
set_option maxRecDepth 100000
set_option maxHeartbeats 32000000
namespace Go.Proofs.YteepmmghanbllaaGreatDoor
open Go.K Go.Stn Go.Pln Go.RowKit
theorem en69:En Tryz.prog 69:=eK Tryz.func69
theorem en70:En Tryz.prog 70:=eK Tryz.func70
theorem en95:En Tryz.prog 95:=eK Tryz.func95
theorem zwu  (w:World):(Instr.build 37 #[]).run Tryz.prog w=.ok (.agg #[.slice none 0 0,.slice none 0 0]) w:=by kernel_rfl
theorem zny:∀ (k:Int) (l:List ByteArray),∀ a∈numV k l,a.length=2
 | _,[],_,h=>by cases h
 | k,t :: r,a,h=>by
  rw [numV] at h
  rcases List.mem_cons.1 h with rfl | h'
  ·rfl
  ·exact zny (k+1) r a h'
theorem zj3 {u:ByteArray} (h:(!(u.toList == (⟨#[]⟩:ByteArray).toList))=true):0 < (u.size:Int):=by
 have:¬ u.size=0:=fun e=>by rw [ze8.2 e] at h; exact Bool.noConfusion h
 omega
theorem zt3 {u:ByteArray} (h:(u.toList == (⟨#[]⟩:ByteArray).toList||decide (zee u 0=35))=true):idle u=true:=by
 rw [Bool.or_eq_true] at h
 rcases h with h' | h'
 ·exact zv1 (ze8.1 h')
 ·exact zv2 h'
theorem zrz {u:ByteArray} (h:(u.toList == (⟨#[]⟩:ByteArray).toList||decide (zee u 0=35))=false):idle u=false:=by
 obtain⟨h1,h2⟩:=(oF).1 h
 exact zt2 (fun e=>by rw [ze8.2 e] at h1; cases h1) h2
theorem zrN {l:List ByteArray} {k:Int} {i:Nat} {a:List Value} (h:(numV k l)[i]?=some a):∃ u,l[i]?=some u∧a=[.int .i64 (k+i),.string u]:=by
 have hi:i < l.length:=by
  have:=(List.getElem?_eq_some_iff.1 h).1
  rwa [zhz] at this
 refine⟨l[i],eG hi,?_⟩
 have:=zkc (k:=k) (eG hi)
 rw [this] at h
 cases h; rfl
theorem zus (t:ByteArray) (w:World) (hmx:Has w (IntV 2)) (hcp:Has w (zaW (some ⟨1,0,none⟩) 1 encS zeZ)) (hop:Has w (zaW (some ⟨0,0,none⟩) 1 encS opensW)) :
  Calls Tryz.prog 44 #[.string t] w (zcU (fun z:(Option Addr×Nat×List ShC)×(Option Addr×Nat×List WlC)=>.tuple #[.agg #[.slice z.1.1 z.1.2.2.length z.1.2.1,.slice z.2.1 z.2.2.2.length z.2.2.1],.int .i64 (zgA t).2.1,.int .i64 (zgA t).2.2]) (fun z=>PlR yP z (zgA t).1) w):=by
 refine zan (vs:=[_]) Tryz.func44 rfl rfl (bL rfl) (gS (zaG rfl rfl (zaL tf37 (zs:=[_,_]) rfl) fun b2=>(zaG rfl rfl (zaL tf3 (zs:=[_]) rfl) fun b3=>(zaG rfl rfl (zaL tf46 (zs:=[_]) rfl) fun b4=>(gN [0,2,3,4] rfl (zac (gS (gM rfl (gQ (zeO (Tryz.underlying9) rfl) (gQ (zc6 rfl rfl) (gN [0,2,3,4,10] rfl (zap rfl (fun hc10=>?_) (fun hc10=>?_)))))))))))))
 ·
  refine gS (gQ (zaI (parts:=[]) rfl zwu) (zaA 2 tf37 rfl rfl (vs:=[_,_]) rfl rfl rfl rfl rfl (zaA 1 tf3 rfl rfl (vs:=[_]) rfl rfl rfl rfl rfl (zaA 0 tf46 rfl rfl (vs:=[_]) rfl rfl rfl rfl rfl (gN [0,2,3,4] rfl (zpO yP (zaw (zbd ((none,0,[]),(none,0,[])) 0 (zdh rfl (zbU (i:=3) (vs:=[_,_]) tf37 rfl rfl rfl rfl) (zcy (i:=2) tf3 rfl rfl rfl) (zcy (i:=1) tf46 rfl rfl rfl)) (by rw [zjq (by have:=oT hc10; omega)] <;> rfl) (by rw [zjq (by have:=oT hc10; omega)] <;> rfl)))))))))
 ·have hlong:¬ t.size > 40000:=by have:=oD hc10; omega
  refine zaq (zac (gS (gM rfl (zaG rfl rfl (zbm en69 rfl (fun w hw=>zud _ w)) fun b13=>(gN [2,3,4,13] rfl (zao 3 rfl (za2 (R':=stR yP b2 (.ok ⟨[],[]⟩)) 0 rfl (fun B w hA=>zxt hA) (zao 2 rfl (zao 3 rfl (zao 2 rfl (zao 3 rfl (zas (gK [2,3,4,13] rfl (zj0 (X:=Except (Int×Int) Plan) (fun x=>[stR yP b2 x,Box b3 [.int .i64 (lnE x)] 3,Box b4 [.int .i64 (erE x)] 46]) (fun n x=>∃ q,x=.ok q∧OkQ q∧zdo ⟨[],[]⟩ 1 (zcb t)=zdo q (1+(n:Int)) ((zcb t).drop n)) (fun x=>x=zdo ⟨[],[]⟩ 1 (zcb t)∧∃ y,x=.error y) [] (.ok ⟨[],[]⟩) rfl en95 rfl rfl ⟨_,rfl,zup,by simp⟩ (zrG t b13 (by omega)) (Has.rd hmx) (zny _ _) rfl ?_ ?_ ?_ ?_))))))))))))))
  ·rintro R1 R2 rl U' w' n x args hget hR hrd hins hbeg
   obtain⟨u,hs,rfl⟩:=zrN hget
   obtain⟨q,rfl,hq,hle⟩:=hR
   refine gK [2,3,4,14,15] rfl (gS (gA rfl (gN [2,3,4,5,15] rfl (zaa (gA rfl (gN [2,3,4,5,6] rfl (za2 (R':=PlP b2 q) 1 rfl (fun B w hA=>hA) (za2 (R':=Box b3 [.int .i64 0] 3) 2 rfl (fun B w hA=>hA) (za2 (R':=Box b4 [.int .i64 0] 46) 3 rfl (fun B w hA=>hA) (hbeg _ _ _ (zas (zac (zac (gZ 7 (ph_y (zaf rfl) (ph_y (zge rfl rfl) (ph_y (zaf rfl) (zaz rfl rfl (fun hgd=>by(try rw [hgd]); (try have hgd2:=zj3 hgd); exact(zaf rfl)) (zaz rfl rfl (fun hgd=>by(try rw [hgd]); (try have hgd2:=zj3 hgd); exact(zdM (Tryz.underlying9) rfl rfl (by omega) (by omega))) (zaz rfl rfl (fun hgd=>by(try rw [hgd]); (try have hgd2:=zj3 hgd); exact(zbL rfl rfl)) (ph_y (zaR rfl rfl rfl) (gN [2,3,4,5,6,22] rfl (zap rfl (fun hc22=>?_) (fun hc22=>?_))))))))))))))))))))))))
   ·have hid:=zt3 hc22
    refine za8 rfl ?_
    exact zb9 (.ok q) trivial rfl ⟨_,rfl,hq,by rw [hle,zl1 hs,zoq hid,(show 1+(n:Int)+1=1+((n+1:Nat):Int) from by omega)]⟩
   ·have hid:=zrz hc22
    refine zaq (gS (gM rfl (zjY 1 en70 rfl rfl rfl (fun w B hF=>zv6 b2 q u w B (fun k hk=>(hF.own k hk).2) hF.A hq (by have:=zom hs; omega) (hF.rd (hrd _ (Has.rd hmx))) (hF.rd (hrd _ (Has.rd hcp))) (hF.rd (hrd _ (Has.rd hop)))) fun z24 hq24=>(gA rfl (gN [2,3,4,5,7] rfl (gS (gM rfl (gQ (zcr rfl rfl) (gN [2,3,4,5,7,26] rfl (zap rfl (fun hc26=>?_) (fun hc26=>?_)))))))))))
    ·have hk:=zrg (q:=q) (t:=u) (by simpa using hc26)
     refine za2 (R':=plAt yP b2) 1 rfl (fun B w hA=>by rw [hk] at hA; exact hA) (zao 1 rfl (zpP fun pa pn pm pb pe pd=>(gS (gQ (zaI (parts:=[]) rfl zwu) (gM rfl (gM rfl (zaA 0 tf37 rfl rfl (vs:=[_,_]) rfl rfl rfl rfl rfl (zaA 2 tf3 rfl rfl (vs:=[_]) rfl rfl rfl rfl rfl (zaA 3 tf46 rfl rfl (vs:=[_]) rfl rfl rfl rfl rfl (gN [2,3,4] rfl (za2 (R':=stR yP b2 (.error (1+(n:Int),zkJ (zcu q u)))) 0 rfl (fun B w hA=>hA) (zao 3 rfl (zao 3 rfl (zao 2 rfl (zao 3 rfl (zaw ?_))))))))))))))))
     exact zb9 (.error (1+(n:Int),zkJ (zcu q u))) trivial rfl ⟨by rw [hle,zl1 hs,zqr hid hk],_,rfl⟩
    ·obtain⟨q',hq'⟩:=ztu (q:=q) (t:=u) (by simpa using hc26)
     refine za2 (R':=PlP b2 q') 1 rfl (fun B w hA=>by rw [hq'] at hA; exact hA) (zaq ?_)
     exact zb9 (.ok q') trivial rfl ⟨_,rfl,zrS hq hq',by rw [hle,zl1 hs,zhB hid hq',(show 1+(n:Int)+1=1+((n+1:Nat):Int) from by omega)]⟩
  ·intro Dm x hR
   obtain⟨q,rfl,hq,hle⟩:=hR
   have hfin:zdo ⟨[],[]⟩ 1 (zcb t)=.ok q:=by rw [hle,zhz,List.drop_of_length_le (Nat.le_refl _)]; rfl
   refine za2 (R':=PlP b2 q) 1 rfl (fun B w hA=>hA) (za2 (R':=Box b3 [.int .i64 0] 3) 2 rfl (fun B w hA=>hA) (za2 (R':=Box b4 [.int .i64 0] 46) 3 rfl (fun B w hA=>hA) (zao 1 rfl (zgq fun sa sc S wa wc V hS hV=>(gS (gQ (zat 0 tf37 rfl rfl (vs:=[_,_]) rfl rfl) (zaA 0 tf37 rfl rfl (vs:=[_,_]) rfl rfl rfl rfl rfl (zaA 6 tf3 rfl rfl (vs:=[_]) rfl rfl rfl rfl rfl (zaA 7 tf46 rfl rfl (vs:=[_]) rfl rfl rfl rfl rfl (gN [2,3,4] rfl (zao 4 rfl (zao 4 rfl (zao 4 rfl (zao 4 rfl (zbT 4 (za2 (R':=PlR yP ((sa,sc,S),(wa,wc,V)) q) 0 rfl (fun B w hA=>⟨hS,hV,hA⟩) (zaw (zil 2 rfl (zbd ((sa,sc,S),(wa,wc,V)) 0 (zdh rfl (zbU (i:=1) (vs:=[_,_]) tf37 rfl rfl rfl rfl) (zcy (i:=2) tf3 rfl rfl rfl) (zcy (i:=3) tf46 rfl rfl rfl)) (by rw [zkf hlong hfin] <;> rfl) (by rw [zkf hlong hfin] <;> rfl))))))))))))))))))))
  ·rintro Dm x hD
   obtain⟨hfin,y,rfl⟩:=hD
   have hfin:=hfin.symm
   refine za2 (R':=Box b2 [.slice none 0 0,.slice none 0 0] 37) 1 rfl (fun B w hA=>hA) (za2 (R':=Box b3 [.int .i64 y.1] 3) 2 rfl (fun B w hA=>hA) (za2 (R':=Box b4 [.int .i64 y.2] 46) 3 rfl (fun B w hA=>hA) (zpO yP (zil 1 rfl (zbd ((none,0,[]),(none,0,[])) 0 (zdh rfl (zbU (i:=1) (vs:=[_,_]) tf37 rfl rfl rfl rfl) (zcy (i:=2) tf3 rfl rfl rfl) (zcy (i:=3) tf46 rfl rfl rfl)) (by rw [zlq hlong hfin] <;> rfl) (by rw [zlq hlong hfin] <;> rfl))))))
  ·exact fun _ _ _ _ h=>absurd h (by simp)
end Go.Proofs.YteepmmghanbllaaGreatDoor
namespace Go.Pln
open Go Go.K Go.RowKit Go.Stn
def smS (S:List ShC) (i:Nat):Bool:=!(decide (20 < ((S.getD i default).s.heights.length:Int))||decide (40 < ((S.getD i default).s.name.size:Int)))
def smW (V:List WlC) (i:Nat):Bool:=!(decide (25 < ((V.getD i default).s.opens.length:Int)))
def zgI (S:List ShC) (V:List WlC):Bool:=allI S.length (smS S)&&(allI V.length (smW V)&&(decide ((S.length:Int)≤25)&&decide ((V.length:Int)≤60)))
section
variable {S:List ShC} {V:List WlC} {i:Int}
theorem zqO (h0:0≤i) (h:i < (S.length:Int)) (hn:smS S i.toNat=false):zgI S V=false:=by
 unfold zgI; rw [zc9 (i:=i.toNat) (by omega) hn,Bool.false_and]
theorem zqP (h0:0≤i) (h:i < (V.length:Int)) (hn:smW V i.toNat=false):zgI S V=false:=by
 unfold zgI; rw [zc9 (i:=i.toNat) (by omega) hn,Bool.false_and,Bool.and_false]
theorem zqN {k:Int} (h1:¬ i < (S.length:Int)) (h2:∀ j:Nat,(j:Int) < i→smS S j=true) (h3:¬ k < (V.length:Int)) (h4:∀ j:Nat,(j:Int) < k→smW V j=true) :
  zgI S V=(decide ((S.length:Int)≤25)&&decide ((V.length:Int)≤60)):=by
 unfold zgI
 rw [zdN (fun j hj=>h2 j (by omega)),zdN (fun j hj=>h4 j (by omega)),Bool.true_and,Bool.true_and]
structure zoN (S:List ShC) (V:List WlC):Prop where
 ls:S.length≤25
 lv:V.length≤60
 sh:∀ z∈S,z.s.heights.length≤20∧z.s.name.size≤40
 wl:∀ z∈V,z.s.opens.length≤25
theorem zmC (h:zgI S V=true):zoN S V:=by
 unfold zgI at h
 simp only [aT,dT] at h
 obtain⟨h1,h2,h3,h4⟩:=h
 refine⟨by omega,by omega,fun z hz=>?_,fun z hz=>?_⟩
 ·obtain⟨i,hi,rfl⟩:=List.getElem_of_mem hz
  have:=zdf.1 h1 i hi
  unfold smS at this
  rw [gE,eG hi] at this
  simp only [Option.getD_some,nT,oF,dF] at this
  omega
 ·obtain⟨i,hi,rfl⟩:=List.getElem_of_mem hz
  have:=zdf.1 h2 i hi
  unfold smW at this
  rw [gE,eG hi] at this
  simp only [Option.getD_some,nT,dF] at this
  omega
end
end Go.Pln
namespace Go.Proofs.YteepmmghanbllaaGreatDoor
open Go.K Go.Stn Go.Pln Go.RowKit
theorem zuI (a:Option Addr) (cap:Nat) (S:List ShC) (b:Option Addr) (bcap:Nat) (V:List WlC) (w:World) (hl:Has w (zaW a 20 zbH S)) (hs:zaP S.length) (hlw:Has w (zaW b 4 zbS V)) (hsw:V.length≤4398046511104) (_hfS:∀ z∈S,Fits z.s.name.size) :
  Calls Tryz.prog 43 #[.agg #[.slice a S.length cap,.slice b V.length bcap]] w (Pure (.bool (zgI S V)) w):=by
 refine zan (vs:=[_]) Tryz.func43 rfl rfl (bL rfl) (gS (zaG rfl rfl (za3 (vs:=[_,_]) rfl rfl) fun b1=>(gA rfl (gN [1,2] rfl (zac (gS (gA rfl (gN [1,2,3] rfl (zas (zbf (X:=Int) (fun(i:Int)=>[(1,.pointer (some ⟨b1,0,none⟩)),(2,.bool false),(3,.int .i64 i)]) (fun(i:Int)=>[Box b1 [.slice a S.length cap,.slice b V.length bcap] 25]) (fun(i:Int)=>(0≤i∧i≤S.length∧∀ j:Nat,(j:Int) < i→smS S j=true)) (fun(i:Int)=>(S.length - i).toNat) 0 ⟨rfl,rfl,rfl,trivial⟩ rfl ?_ ?_))))))))))
 ·exact⟨by omega,by omega,fun j hj=>by omega⟩
 ·rintro i hI
  obtain⟨g0,g1,g2⟩:=hI
  refine zac (gS (gM rfl (gQ (zab zd6 rfl) (gQ (zah 0 tf22 rfl rfl rfl) (gQ (zaV (Tryz.underlying22) rfl) (gQ (zbw rfl rfl) (gN [1,2,3,9] rfl (zap rfl (fun hc9=>?_) (fun hc9=>?_)))))))))
  ·have hc9:=oT hc9
   refine zaq (zac (zas (zac (gZ 18 (ph_y (zab zd6 rfl) (ph_y (zah 0 tf22 rfl rfl rfl) (ph_y (zaf rfl) (ph_y (zaE se22 rfl rfl (fun _=>rH hl)) (ph_y (zbh zzj rfl (fun w hw=>zaO (i:=i) (rH hl hw))) (ph_y (zbn tf45 rfl (fun _=>rH hl) (by omega) (by omega) rfl) (ph_y (zaV (Tryz.underlying45) rfl) (ph_y (zc6 rfl rfl) (ph_y (zaf rfl) (zaz rfl rfl (fun jj=>by(try rw [jj]); exact zab zd6 rfl) (zaz rfl rfl (fun jj=>by(try rw [jj]); exact zah 0 tf22 rfl rfl rfl) (zaz rfl rfl (fun jj=>by(try rw [jj]); exact zaf rfl) (zaz rfl rfl (fun jj=>by(try rw [jj]); exact zaE se22 rfl rfl (fun _=>rH hl)) (zaz rfl rfl (fun jj=>by(try rw [jj]); exact zbh zAK rfl (fun w hw=>zaO (i:=i) (rH hl hw))) (zaz rfl rfl (fun jj=>by(try rw [jj]); exact zbn tf9 rfl (fun _=>rH hl) (by omega) (by omega) rfl) (zaz rfl rfl (fun jj=>by(try rw [jj]); exact zeO (Tryz.underlying9) rfl) (zaz rfl rfl (fun jj=>by(try rw [jj]); exact zc6 rfl rfl) (ph_y (zaR rfl rfl rfl) (gN [1,2,3,29] rfl (zap rfl (fun hc29=>?_) (fun hc29=>?_)))))))))))))))))))))))))
   ·have hno:smS S i.toNat=false:=by unfold smS; rw [hc29]; rfl
    refine gS (gA rfl (gN [1,2,3] rfl (zaw (zay (zaC rfl (zau rfl)) ?_))))
    rw [zqO g0 hc9 hno]
   ·have hyes:smS S i.toNat=true:=by unfold smS; rw [hc29]; rfl
    refine zaq (zaa (gM rfl (gQ (zaY rfl rfl) (gA rfl (gN [1,2,3] rfl ?_)))))
    exact za1 (i+1) ⟨rfl,rfl,rfl,trivial⟩ rfl ⟨by omega,by omega,zdu g0 g2 hyes⟩ (by omega)
  ·have hc9:=oD hc9
   refine za8 rfl (zac (gS (gA rfl (gN [1,2,4] rfl (zas (zbf (X:=Int) (fun(i:Int)=>[(1,.pointer (some ⟨b1,0,none⟩)),(2,.bool false),(4,.int .i64 i)]) (fun(i:Int)=>[Box b1 [.slice a S.length cap,.slice b V.length bcap] 25]) (fun(i:Int)=>(0≤i∧i≤V.length∧∀ j:Nat,(j:Int) < i→smW V j=true)) (fun(i:Int)=>(V.length - i).toNat) 0 ⟨rfl,rfl,rfl,trivial⟩ rfl ?_ ?_))))))
   ·exact⟨by omega,by omega,fun j hj=>by omega⟩
   ·rintro i hI
    have gi2:=g2; have hgi:=hc9
    rename_i ii
    obtain⟨k0,k1,k2⟩:=hI
    refine zac (gS (gM rfl (gQ (zab zdT rfl) (gQ (zah 0 tf23 rfl rfl rfl) (gQ (zaV (Tryz.underlying23) rfl) (gQ (zbw rfl rfl) (gN [1,2,4,34] rfl (zap rfl (fun hc34=>?_) (fun hc34=>?_)))))))))
    ·have hc34:=oT hc34
     refine zaq (zac (zas (gS (gQ (zab zdT rfl) (gQ (zah 0 tf23 rfl rfl rfl) (gM rfl (gQ (zaE se23 rfl rfl (fun _=>rH hlw)) (gQ (zbh zyN rfl (fun w hw=>zaO (i:=i) (rH hlw hw))) (gQ (zbn zAj rfl (fun _=>rH hlw) (by omega) (by omega) rfl) (gQ (zaV (Tryz.underlying132) rfl) (gQ (zc6 rfl rfl) (gN [1,2,4,44] rfl (zap rfl (fun hc44=>?_) (fun hc44=>?_))))))))))))))
     ·have hno:smW V i.toNat=false:=by unfold smW; rw [hc44]; rfl
      refine gS (gA rfl (gN [1,2,4] rfl (zaw (zay (zaC rfl (zau rfl)) ?_))))
      rw [zqP k0 hc34 hno]
     ·have hyes:smW V i.toNat=true:=by unfold smW; rw [hc44]; rfl
      refine zaq (zaa (gM rfl (gQ (zaY rfl rfl) (gA rfl (gN [1,2,4] rfl ?_)))))
      exact za1 (i+1) ⟨rfl,rfl,rfl,trivial⟩ rfl ⟨by omega,by omega,zdu k0 k2 hyes⟩ (by omega)
    ·have hc34:=oD hc34
     refine za8 rfl (zac (gZ 11 (ph_y (zab zd6 rfl) (ph_y (zah 0 tf22 rfl rfl rfl) (ph_y (zaV (Tryz.underlying22) rfl) (ph_y (zeT rfl rfl) (ph_y (zaf rfl) (zaH rfl rfl (fun jj=>by(try rw [jj]); exact zab zdT rfl) (zaH rfl rfl (fun jj=>by(try rw [jj]); exact zah 0 tf23 rfl rfl rfl) (zaH rfl rfl (fun jj=>by(try rw [jj]); exact zaV (Tryz.underlying23) rfl) (zaH rfl rfl (fun jj=>by(try rw [jj]); exact zeT rfl rfl) (ph_y (zaX rfl rfl rfl) (ph_y (zad rfl) (gN [2] rfl (zaw (zay (zaC rfl (zau rfl)) ?_))))))))))))))))
     rw [zqN hc9 g2 hc34 k2]
end Go.Proofs.YteepmmghanbllaaGreatDoor
namespace Go.K
open Go Go.RowKit
section
variable {α:Type} {enc:α→List Value} {k:Nat} {c:Cx} {ds:List Deferred} {T:List (Nat×Value)} {H:List Res} {d:Option Nat} {x y:Operand} {ty:TypeId} {ps:String} {af:Array Edge} {g:Option (Nat×Bool)}
theorem zoJ {t e:TypeId} {by_:Nat} {zs:List Value} {a2:Option Addr} {c2:Nat} {m:List α} (hf:AF c.P t e k by_ zs) (he:Enc k enc)
  (hx:evo T x=some (.slice none 0 0)) (hy:evo T y=some (.slice a2 m.length c2)) (hm:∀ w,Hp c.U c.w0 H w→Has w (zaW a2 k enc m))
  (hb:m.length*by_≤140737488355328) (hlm:m.length≤maxLen) :
  YX c ds H T ⟨d,.call ⟨.builtin .append,#[x,y],#[t,t]⟩,ty,ps,af,g⟩ (fun z:Option Addr×Nat=>.slice z.1 m.length z.2) (fun z=>Row z.1 k z.2 e enc m):=by
 by_cases h0:m.length=0
 ·obtain rfl:=List.eq_nil_of_length_eq_zero h0
  refine⟨fun A w hs _=>?_⟩
  unfold Yld
  rw [zcp («as»:=[x,y]) (vs:=[.slice none 0 0,.slice a2 0 c2]) (by simp [evs,hx,hy]) hs w]
  simp only [builtin]
  rw [zbu (ziA hf (Nat.le_refl 0))]
  exact⟨(none,0),rfl,Ext.rfl,fun _=>False,fun _ h=>h.elim,.inl ⟨rfl,rfl,rfl⟩⟩
 ·exact zlO (a:=none) (cap:=0) (l:=[]) hf he hx hy (fun _ _=>⟨fun _=>False,fun _ h=>h.elim,.inl ⟨rfl,rfl,rfl⟩⟩) hm (by simpa using hb) (by simpa using hlm) (by simp; omega)
end
end Go.K
namespace Go.Pln
open Go Go.K Go.RowKit Go.Stn
section
variable {α:Type} [Inhabited α] {p:α→Bool}
theorem zey {l:List α} {i:Int} (h0:0≤i) (h:i < (l.length:Int)):l.take (i+1).toNat=l.take i.toNat++[l.getD i.toNat default]:=by
 rw [show(i+1).toNat=i.toNat+1 from by omega,List.take_add_one,gE,eG (by omega)]; rfl
end
end Go.Pln
namespace Go.Proofs.YteepmmghanbllaaGreatDoor
open Go.K Go.Stn Go.Pln Go.RowKit
theorem zAX (x0 x1:ByteArray) (x2:Int) (w:World):(Instr.build 116 #[(0,.string x0),(1,.string x1),(2,.int .i64 x2)]).run Tryz.prog w=.ok (.agg #[.string x0,.string x1,.int .i64 x2,.slice none 0 0]) w:=by kernel_rfl
theorem zyp (x0:ByteArray) (x1 x2 x3 x4:Int) (x5a:Option Addr) (x5n x5c:Nat) (x6 x7 x8 x9 x10 x11 x12 x13 x14 x15 x16 x17 x18 x19:Int) (w:World):(Instr.build 118 #[(0,.string x0),(1,.int .i64 x1),(2,.int .i64 x2),(3,.int .i64 x3),(4,.int .i64 x4),(5,.slice x5a x5n x5c),(6,.int .i64 x6),(7,.int .i64 x7),(8,.int .i64 x8),(9,.int .i64 x9),(10,.int .i64 x10),(11,.int .i64 x11),(12,.int .i64 x12),(13,.int .u8 x13),(14,.int .i64 x14),(15,.int .i64 x15),(16,.int .i64 x16),(17,.int .i64 x17),(18,.int .i64 x18),(19,.int .i64 x19)]).run Tryz.prog w=.ok (.agg #[.string x0,.int .i64 x1,.int .i64 x2,.int .i64 x3,.int .i64 x4,.slice x5a x5n x5c,.int .i64 x6,.int .i64 x7,.int .i64 x8,.int .i64 x9,.int .i64 x10,.int .i64 x11,.int .i64 x12,.int .u8 x13,.int .i64 x14,.int .i64 x15,.int .i64 x16,.int .i64 x17,.int .i64 x18,.int .i64 x19]) w:=by kernel_rfl
theorem zzH (x0 x1 x2 x3 x4:Int) (w:World):(Instr.build 122 #[(0,.int .u8 x0),(1,.int .i64 x1),(2,.int .i64 x2),(3,.int .i64 x3),(4,.int .i64 x4)]).run Tryz.prog w=.ok (.agg #[.int .u8 x0,.int .i64 x1,.int .i64 x2,.int .i64 x3,.int .i64 x4]) w:=by kernel_rfl
theorem zrH (s:Sht) (b:Option Addr) (bcap:Nat) (w:World) (hl:Has w (Ints b s.heights)) (hs:s.heights.length≤17592186044416) :
  Calls Tryz.prog 67 #[.agg #[.string s.name,.int .i64 s.base,.int .i64 s.batter,.int .i64 s.height,.int .i64 s.skin,.slice b s.heights.length bcap,.int .i64 s.least,.int .i64 s.lap,.int .i64 s.run,.int .i64 s.every,.int .i64 s.at_,.int .i64 s.footing,.int .i64 s.spread,.int .u8 s.cope,.int .i64 s.tall,.int .i64 s.short,.int .i64 s.thick,.int .i64 s.low,.int .i64 s.high,.int .i64 s.rood]] w (zcU (fun z:Option Addr×Nat=>.agg #[.string s.name,.int .i64 s.base,.int .i64 s.batter,.int .i64 s.height,.int .i64 s.skin,.slice z.1 s.heights.length z.2,.int .i64 s.least,.int .i64 s.lap,.int .i64 s.run,.int .i64 s.every,.int .i64 s.at_,.int .i64 s.footing,.int .i64 s.spread,.int .u8 s.cope,.int .i64 s.tall,.int .i64 s.short,.int .i64 s.thick,.int .i64 s.low,.int .i64 s.high,.int .i64 s.rood]) (fun z=>Row z.1 1 z.2 3 Go.Stn.encI s.heights) w):=by
 refine zan (vs:=[_]) Tryz.func67 rfl rfl (bL rfl) (gS (zaG rfl rfl (za3 (vs:=[_,_,_,_,_,_,_,_,_,_,_,_,_,_,_,_,_,_,_,_]) rfl rfl) fun b1=>(zaG rfl rfl (zaL zyq (zs:=[_,_,_,_,_,_,_,_,_,_,_,_,_,_,_,_,_,_,_,_]) rfl) fun b2=>(gN [1,2] rfl (zac (gZ 41 (ph_y (zab zAK rfl) (ph_y (zah 1 tf9 rfl rfl rfl) (ph_y (zab zCl rfl) (ph_y (zah 1 tf3 rfl rfl rfl) (ph_y (zab zCm rfl) (ph_y (zah 1 tf3 rfl rfl rfl) (ph_y (zab zyH rfl) (ph_y (zah 1 tf3 rfl rfl rfl) (ph_y (zab zDP rfl) (ph_y (zah 1 tf3 rfl rfl rfl) (ph_y (zab zzj rfl) (ph_y (zah 1 tf45 rfl rfl rfl) (zmr (zoJ (m:=s.heights) af45 Go.Stn.encI_ok rfl rfl (fun _=>rH hl) (by omega) (by unfold maxLen; omega)) (ph_y (zab zCn rfl) (ph_y (zah 1 tf3 rfl rfl rfl) (ph_y (zab zDQ rfl) (ph_y (zah 1 tf3 rfl rfl rfl) (ph_y (zab zDR rfl) (ph_y (zah 1 tf3 rfl rfl rfl) (ph_y (zab zCo rfl) (ph_y (zah 1 tf3 rfl rfl rfl) (ph_y (zab zBt rfl) (ph_y (zah 1 tf3 rfl rfl rfl) (ph_y (zab zCM rfl) (ph_y (zah 1 tf3 rfl rfl rfl) (ph_y (zab zCN rfl) (ph_y (zah 1 tf3 rfl rfl rfl) (ph_y (zab zzz rfl) (ph_y (zah 1 tf5 rfl rfl rfl) (ph_y (zab zzZ rfl) ?_))))))))))))))))))))))))))))))))))))
 refine ph_y (zah 1 tf3 rfl rfl rfl) (ph_y (zab zAv rfl) (ph_y (zah 1 tf3 rfl rfl rfl) (ph_y (zab zBu rfl) (ph_y (zah 1 tf3 rfl rfl rfl) (ph_y (zab zCO rfl) (ph_y (zah 1 tf3 rfl rfl rfl) (ph_y (zab zBv rfl) (ph_y (zah 1 tf3 rfl rfl rfl) (ph_y (zab zCP rfl) (ph_y (zah 1 tf3 rfl rfl rfl) ?_))))))))))
 intro z15
 refine gK [2,4,6,8,10,12,15,17,19,21,23,25,27,29,31,33,35,37,39,41,43] rfl (gQ (zaI rfl (zyp _ _ _ _ _ _ _ _ _ _ _ _ _ _ _ _ _ _ _ _ _ _)) (zbz 1 zyq rfl rfl (vs:=[_,_,_,_,_,_,_,_,_,_,_,_,_,_,_,_,_,_,_,_]) rfl rfl rfl rfl rfl (gN [2] rfl (zaw (zbd (z15.1,z15.2) 0 (zaC rfl (zbU (i:=1) (vs:=(sV s z15.1 z15.2)) zyq rfl rfl rfl rfl)) ?_ rfl)))))
 rfl
theorem zuf (v:Wll) (b:Option Addr) (bcap:Nat) (w:World) (hv:Has w (zaW b 5 zba v.opens)) (hs:v.opens.length≤3518437208883) :
  Calls Tryz.prog 68 #[.agg #[.string v.name,.string v.sheet,.int .i64 v.length,.slice b v.opens.length bcap]] w (zcU (fun z:Option Addr×Nat=>.agg #[.string v.name,.string v.sheet,.int .i64 v.length,.slice z.1 v.opens.length z.2]) (fun z=>Row z.1 5 z.2 122 zba v.opens) w):=by
 refine zan (vs:=[_]) Tryz.func68 rfl rfl (bL rfl) (gS (zaG rfl rfl (za3 (vs:=[_,_,_,_]) rfl rfl) fun b1=>(zaG rfl rfl (zaL zyz (zs:=[_,_,_,_]) rfl) fun b2=>(gN [1,2] rfl (gS (gQ (zab zBs rfl) (gQ (zah 1 tf9 rfl rfl rfl) (gQ (zab zCk rfl) (gQ (zah 1 tf9 rfl rfl rfl) (gQ (zab zAJ rfl) (gQ (zah 1 tf3 rfl rfl rfl) (gQ (zaI rfl (zAX _ _ _)) (zaG rfl rfl (zaL zyz (zs:=[_,_,_,_]) rfl) fun b3=>(zaA 0 zyz rfl rfl (vs:=[_,_,_,_]) rfl rfl rfl rfl rfl (gN [1,2,3] rfl (zac (gS (gA rfl (gN [1,2,3,4] rfl (zas (zbB 122 zba 5 (zbf (X:=Int×Option Addr×Nat×List Opn) (fun⟨i,ra,rc,M⟩=>[(1,.pointer (some ⟨b1,0,none⟩)),(2,.pointer (some ⟨b2,0,none⟩)),(3,.pointer (some ⟨b3,0,none⟩)),(4,.int .i64 i)]) (fun⟨i,ra,rc,M⟩=>[Row ra 5 rc 122 zba M,Box b3 [.string v.name,.string v.sheet,.int .i64 v.length,.slice ra M.length rc] 116,Box b2 [.string ⟨#[]⟩,.string ⟨#[]⟩,.int .i64 0,.slice none 0 0] 116,Box b1 (wV v b bcap) 134]) (fun⟨i,ra,rc,M⟩=>(0≤i∧i≤v.opens.length∧M=v.opens.take i.toNat)) (fun⟨i,ra,rc,M⟩=>(v.opens.length - i).toNat) (0,none,0,[]) ⟨rfl,rfl,rfl,rfl,trivial⟩ rfl ?_ ?_))))))))))))))))))))))
 ·exact⟨by omega,by omega,rfl⟩
 ·rintro ⟨i,ra,rc,M⟩ hI
  obtain⟨g0,g1,g2⟩:=hI
  have hml:M.length≤v.opens.length:=by rw [g2,List.length_take]; omega
  have hml2:M.length≤i.toNat:=by rw [g2,List.length_take]; omega
  refine zac (gS (gM rfl (gQ (zab zyN rfl) (gQ (zah 3 zAj rfl rfl rfl) (gQ (zaV (Tryz.underlying132) rfl) (gQ (zbw rfl rfl) (gN [1,2,3,4,17] rfl (zap rfl (fun hc17=>?_) (fun hc17=>?_)))))))))
  ·have hc17:=oT hc17
   refine zaq (zac (zas (gS (gQ (zab zyN rfl) (gQ (zah 3 zAj rfl rfl rfl) (gM rfl (gQ (zaE zEf rfl rfl (fun _=>rH hv)) (gQ (zbv (vs:=[_,_,_,_,_]) zzW rfl (fun _=>rH hv) (by omega) (by omega) rfl) (zaG rfl rfl (zaL zzW (zs:=[_,_,_,_,_]) rfl) fun b5=>(zaA 0 zzW rfl rfl (vs:=[_,_,_,_,_]) rfl rfl rfl rfl rfl (gN [1,2,3,4,5] rfl (zaa (gQ (zab zyL rfl) (gQ (zah 2 zAi rfl rfl rfl) (gQ (zab zzr rfl) (gQ (zah 0 tf5 rfl rfl rfl) (gQ (zab zzP rfl) (gQ (zah 0 tf3 rfl rfl rfl) (gQ (zab zzQ rfl) (gQ (zah 0 tf3 rfl rfl rfl) (gQ (zab zyC rfl) (gQ (zah 0 tf3 rfl rfl rfl) (gQ (zab zzs rfl) (gQ (zah 0 tf3 rfl rfl rfl) (gQ (zaI rfl (zzH _ _ _ _ _)) (zaG rfl rfl (zaD rfl (zDy _ _ _ _ _) zyn rfl) fun b38=>?_))))))))))))))))))))))))))
   refine zb4 (m:=[(v.opens.getD (i).toNat default)]) 2 zFD zyn rfl rfl rfl rfl (fun _ hw=>(zam zyn (hw.has (p:=0) rfl))) (by first | omega | (simp only [lC,lN]; omega)) (by first | (unfold maxLen; omega) | (simp only [lC,lN,maxLen]; omega)) fun a39 c39=>(gQ (zab zyL rfl) (zaA 3 zAi rfl rfl (vs:=[_]) rfl rfl rfl rfl rfl (gN [1,2,3,4] rfl (zaa (gM rfl (gQ (zaY rfl rfl) (gA rfl (gN [1,2,3,4] rfl (zaK 0 rfl (zaK 0 rfl ?_))))))))))
   exact za1 (i+1,_,_,_) ⟨rfl,rfl,rfl,rfl,trivial⟩ rfl ⟨by omega,by omega,by rw [g2,zey g0 hc17]⟩ (by simp only []; omega)
  ·have hc17:=oD hc17
   obtain rfl:M=v.opens:=by rw [g2,List.take_of_length_le (by omega)]
   refine za8 rfl (gS (gQ (zat 1 zyz rfl rfl (vs:=[_,_,_,_]) rfl rfl) (zaA 2 zyz rfl rfl (vs:=[_,_,_,_]) rfl rfl rfl rfl rfl (gN [2] rfl (zaw (zbd (ra,rc) 0 (zaC rfl (zbU (i:=2) (vs:=[_,_,_,_]) zyz rfl rfl rfl rfl)) ?_ rfl))))))
   rfl
theorem en67:En Tryz.prog 67:=eK Tryz.func67
theorem en68:En Tryz.prog 68:=eK Tryz.func68
theorem map_take {α β:Type} [Inhabited α] (f:α→β) {l m:List α} {i:Int} {x:α} (h0:0≤i) (h:i < (l.length:Int)) (hm:m.map f=(l.take i.toNat).map f) (hx:f x=f (l.getD i.toNat default)):(m++[x]).map f=(l.take (i+1).toNat).map f:=by
 rw [List.map_append,hm,show(i+1).toNat=i.toNat+1 from by omega,List.take_add_one,eG (by omega),List.map_append]
 congr 1
 show [f x]=[f l[i.toNat]]
 rw [hx,gE,eG (by omega)]; rfl
theorem zue (a:Option Addr) (cap:Nat) (S:List ShC) (b:Option Addr) (bcap:Nat) (V:List WlC) (w:World) (hl:Has w (zaW a 20 zbH S)) (hlw:Has w (zaW b 4 zbS V)) (hsh:∀ z∈S,Has w (Ints z.a z.s.heights)) (hss:∀ z∈S,z.s.heights.length≤17592186044416) (hwo:∀ z∈V,Has w (zaW z.a 5 zba z.s.opens)) (hsv:∀ z∈V,z.s.opens.length≤3518437208883) (hsl:S.length≤764877654104) (hvl:V.length≤2199023255552) :
  Calls Tryz.prog 42 #[.agg #[.slice a S.length cap,.slice b V.length bcap]] w (zcU (fun z:(Option Addr×Nat×List ShC)×(Option Addr×Nat×List WlC)=>.agg #[.slice z.1.1 z.1.2.2.length z.1.2.1,.slice z.2.1 z.2.2.2.length z.2.2.1]) (fun z=>PlR yP z ⟨S.map (·.s),V.map (·.s)⟩) w):=by
 refine zan (vs:=[_]) Tryz.func42 rfl rfl (bL rfl) (gS (zaG rfl rfl (za3 (vs:=[_,_]) rfl rfl) fun b1=>(zaG rfl rfl (zaL tf37 (zs:=[_,_]) rfl) fun b2=>(gN [1,2] rfl (gS (zaG rfl rfl (zaL tf37 (zs:=[_,_]) rfl) fun b3=>(gN [1,2,3] rfl (zac (gS (gA rfl (gN [1,2,3,4] rfl (zas (zbB 118 zbH 20 (zjj (rowH 3) (zbf (X:=Int×Option Addr×Nat×List ShC) (fun⟨i,ra,rc,S2⟩=>[(1,.pointer (some ⟨b1,0,none⟩)),(2,.pointer (some ⟨b2,0,none⟩)),(3,.pointer (some ⟨b3,0,none⟩)),(4,.int .i64 i)]) (fun⟨i,ra,rc,S2⟩=>[Go.K.Rows (rowH 3) S2,Row ra 20 rc 118 zbH S2,Box b3 [.slice ra S2.length rc,.slice none 0 0] 37,Box b2 [.slice none 0 0,.slice none 0 0] 37,Box b1 [.slice a S.length cap,.slice b V.length bcap] 25]) (fun⟨i,ra,rc,S2⟩=>(0≤i∧i≤S.length∧S2.map (·.s)=(S.take i.toNat).map (·.s))) (fun⟨i,ra,rc,S2⟩=>(S.length - i).toNat) (0,none,0,[]) ⟨rfl,rfl,rfl,rfl,trivial⟩ rfl ?_ ?_)))))))))))))))
 ·exact⟨by omega,by omega,rfl⟩
 ·rintro ⟨i,ra,rc,S2⟩ hI
  obtain⟨g0,g1,g2⟩:=hI
  have hml:S2.length≤S.length:=by have:=congrArg List.length g2; rw [lM,lM,List.length_take] at this; omega
  have hml2:S2.length≤i.toNat:=by have:=congrArg List.length g2; rw [lM,lM,List.length_take] at this; omega
  refine zac (gS (gM rfl (gQ (zab zd6 rfl) (gQ (zah 4 tf22 rfl rfl rfl) (gQ (zaV (Tryz.underlying22) rfl) (gQ (zbw rfl rfl) (gN [1,2,3,4,10] rfl (zap rfl (fun hc10=>?_) (fun hc10=>?_)))))))))
  ·have hc10:=oT hc10
   refine zaq (zac (zas (zCs [] (ch [(7,(Option Addr×Nat)),(8,Nat)]) 1000 9 [0,1,0,4,0,28,60,124,252,511,1023,2047] [] rfl (fun _=>mixed) (by kernel_rfl) (zjK _ ⟨inferInstance,inferInstance,trivial⟩) (pY (fun ρ=>zab zkW rfl) (pY (fun ρ=>zah 2 tf34 rfl rfl rfl) (pY (fun ρ=>zab zd6 rfl) (pY (fun ρ=>zah 4 tf22 rfl rfl rfl) (pY (fun ρ=>zaf rfl) (pY (fun ρ=>zaE se22 rfl rfl (fun _=>rH hl)) (pY (fun ρ=>zbv (vs:=[_,_,_,_,_,_,_,_,_,_,_,_,_,_,_,_,_,_,_,_]) zzu rfl (fun _=>rH hl) (by omega) (by omega) rfl) (zFy (fun ρ=>zbm en67 rfl (fun w hw=>zrH ((S.getD (i).toNat default).s) _ _ w (Rd.has (Has.rd (hsh _ (za0 (by omega)))) hw) (hss _ (za0 (by omega))))) (fun ρ ρ' h=>⟨by rfl,by rfl⟩) (zFy (fun ρ=>zaD rfl (zFp (⟨(S.getD (i).toNat default).s,(ρ 7).1,(ρ 7).2⟩:ShC)) zbI rfl) (fun ρ ρ' h=>⟨by(first | rfl | (simp only [h 7 rfl]; done) | (simp only [h 7 rfl]; rfl)),by(first | rfl | (simp only [h 7 rfl]; done) | (simp only [h 7 rfl]; rfl))⟩) ?_))))))))))))
   refine fun ρ=>zf4 (X:=(Option Addr×Nat)×Nat) (ρ 7,ρ 8) (fun⟨p20,b21⟩=>[(1,.pointer (some ⟨b1,0,none⟩)),(2,.pointer (some ⟨b2,0,none⟩)),(3,.pointer (some ⟨b3,0,none⟩)),(4,.int .i64 i),(14,.slice ra S2.length rc),(21,.slice (some ⟨b21,0,none⟩) 1 1)]) (fun⟨p20,b21⟩=>[Row (some ⟨b21,0,none⟩) 20 1 118 zbH [(⟨(S.getD (i).toNat default).s,p20.1,p20.2⟩:ShC)],Row p20.1 1 p20.2 3 Go.Stn.encI (S.getD (i).toNat default).s.heights,Go.K.Rows (rowH 3) S2,Row ra 20 rc 118 zbH S2,Box b3 [.slice ra S2.length rc,.slice none 0 0] 37,Box b2 [.slice none 0 0,.slice none 0 0] 37,Box b1 [.slice a S.length cap,.slice b V.length bcap] 25]) (sB rfl) rfl ?_
   rintro ⟨p20,b21⟩
   refine zb4 (m:=[(⟨(S.getD (i).toNat default).s,p20.1,p20.2⟩:ShC)]) 3 af34 zbI rfl rfl rfl rfl (fun _ hw=>(zam zbI (hw.has (p:=0) rfl))) (by first | omega | (simp only [lC,lN]; omega)) (by first | (unfold maxLen; omega) | (simp only [lC,lN,maxLen]; omega)) fun a22 c22=>(gQ (zab zkW rfl) (zaA 4 tf34 rfl rfl (vs:=[_]) rfl rfl rfl rfl rfl (gN [1,2,3,4] rfl (zao 1 rfl (zao 2 rfl (zbT 2 (za2 (R':=Go.K.Rows (rowH 3) (S2++[(⟨(S.getD i.toNat default).s,p20.1,p20.2⟩:ShC)])) 0 rfl (fun B w hA=>zfr (f:=rowH 3) hA) (zaa (gM rfl (gQ (zaY rfl rfl) (gA rfl (gN [1,2,3,4] rfl (zaK 1 rfl ?_)))))))))))))
   exact za1 (i+1,_,_,_) ⟨rfl,rfl,rfl,rfl,trivial⟩ rfl ⟨by omega,by omega,map_take _ g0 hc10 g2 rfl⟩ (by simp only []; omega)
  ·have hc10:=oD hc10
   have hS2:S2.map (·.s)=S.map (·.s):=by rw [g2,List.take_of_length_le (by omega)]
   clear g0 g1 g2 hml hml2
   refine za8 rfl (zac (gS (gA rfl (gN [1,2,3,5] rfl (zas (zbB 116 zbS 4 (zjj (rowO 122) (zbf (X:=Int×Option Addr×Nat×List WlC) (fun⟨i,rb,rd,V2⟩=>[(1,.pointer (some ⟨b1,0,none⟩)),(2,.pointer (some ⟨b2,0,none⟩)),(3,.pointer (some ⟨b3,0,none⟩)),(5,.int .i64 i)]) (fun⟨i,rb,rd,V2⟩=>[Go.K.Rows (rowO 122) V2,Row rb 4 rd 116 zbS V2,Go.K.Rows (rowH 3) S2,Row ra 20 rc 118 zbH S2,Box b3 [.slice ra S2.length rc,.slice rb V2.length rd] 37,Box b2 [.slice none 0 0,.slice none 0 0] 37,Box b1 [.slice a S.length cap,.slice b V.length bcap] 25]) (fun⟨i,rb,rd,V2⟩=>(0≤i∧i≤V.length∧V2.map (·.s)=(V.take i.toNat).map (·.s))) (fun⟨i,rb,rd,V2⟩=>(V.length - i).toNat) (0,none,0,[]) ⟨rfl,rfl,rfl,rfl,trivial⟩ rfl ?_ ?_))))))))
   ·exact⟨by omega,by omega,rfl⟩
   ·rintro ⟨i,rb,rd,V2⟩ hI
    obtain⟨g0,g1,g2⟩:=hI
    have hml:V2.length≤V.length:=by have:=congrArg List.length g2; rw [lM,lM,List.length_take] at this; omega
    have hml2:V2.length≤i.toNat:=by have:=congrArg List.length g2; rw [lM,lM,List.length_take] at this; omega
    refine zac (gS (gM rfl (gQ (zab zdT rfl) (gQ (zah 6 tf23 rfl rfl rfl) (gQ (zaV (Tryz.underlying23) rfl) (gQ (zbw rfl rfl) (gN [1,2,3,5,28] rfl (zap rfl (fun hc28=>?_) (fun hc28=>?_)))))))))
    ·have hc28:=oT hc28
     refine zaq (zac (zas (zCs [] (ch [(7,(Option Addr×Nat)),(8,Nat)]) 1000 9 [0,1,0,4,0,28,60,124,252,511,1023,2047] [] rfl (fun _=>mixed) (by kernel_rfl) (zjK _ ⟨inferInstance,inferInstance,trivial⟩) (pY (fun ρ=>zab zna rfl) (pY (fun ρ=>zah 4 tf35 rfl rfl rfl) (pY (fun ρ=>zab zdT rfl) (pY (fun ρ=>zah 6 tf23 rfl rfl rfl) (pY (fun ρ=>zaf rfl) (pY (fun ρ=>zaE se23 rfl rfl (fun _=>rH hlw)) (pY (fun ρ=>zbv (vs:=[_,_,_,_]) zAk rfl (fun _=>rH hlw) (by omega) (by omega) rfl) (zFy (fun ρ=>zbm en68 rfl (fun w hw=>zuf ((V.getD (i).toNat default).s) _ _ w (Rd.has (Has.rd (hwo _ (za0 (by omega)))) hw) (hsv _ (za0 (by omega))))) (fun ρ ρ' h=>⟨by rfl,by rfl⟩) (zFy (fun ρ=>zaD rfl (zo0 (⟨(V.getD (i).toNat default).s,(ρ 7).1,(ρ 7).2⟩:WlC)) zbo rfl) (fun ρ ρ' h=>⟨by(first | rfl | (simp only [h 7 rfl]; done) | (simp only [h 7 rfl]; rfl)),by(first | rfl | (simp only [h 7 rfl]; done) | (simp only [h 7 rfl]; rfl))⟩) ?_))))))))))))
     refine fun ρ=>zf4 (X:=(Option Addr×Nat)×Nat) (ρ 7,ρ 8) (fun⟨p38,b39⟩=>[(1,.pointer (some ⟨b1,0,none⟩)),(2,.pointer (some ⟨b2,0,none⟩)),(3,.pointer (some ⟨b3,0,none⟩)),(5,.int .i64 i),(32,.slice rb V2.length rd),(39,.slice (some ⟨b39,0,none⟩) 1 1)]) (fun⟨p38,b39⟩=>[Row (some ⟨b39,0,none⟩) 4 1 116 zbS [(⟨(V.getD (i).toNat default).s,p38.1,p38.2⟩:WlC)],Row p38.1 5 p38.2 122 zba (V.getD (i).toNat default).s.opens,Go.K.Rows (rowO 122) V2,Row rb 4 rd 116 zbS V2,Go.K.Rows (rowH 3) S2,Row ra 20 rc 118 zbH S2,Box b3 [.slice ra S2.length rc,.slice rb V2.length rd] 37,Box b2 [.slice none 0 0,.slice none 0 0] 37,Box b1 [.slice a S.length cap,.slice b V.length bcap] 25]) (sB rfl) rfl ?_
     rintro ⟨p38,b39⟩
     refine zb4 (m:=[(⟨(V.getD (i).toNat default).s,p38.1,p38.2⟩:WlC)]) 3 af35 zbo rfl rfl rfl rfl (fun _ hw=>(zam zbo (hw.has (p:=0) rfl))) (by first | omega | (simp only [lC,lN]; omega)) (by first | (unfold maxLen; omega) | (simp only [lC,lN,maxLen]; omega)) fun a40 c40=>(gQ (zab zna rfl) (zaA 6 tf35 rfl rfl (vs:=[_]) rfl rfl rfl rfl rfl (gN [1,2,3,5] rfl (zao 1 rfl (zao 2 rfl (zbT 2 (za2 (R':=Go.K.Rows (rowO 122) (V2++[(⟨(V.getD i.toNat default).s,p38.1,p38.2⟩:WlC)])) 0 rfl (fun B w hA=>zfr (f:=rowO 122) hA) (zaa (gM rfl (gQ (zaY rfl rfl) (gA rfl (gN [1,2,3,5] rfl (zaK 1 rfl ?_)))))))))))))
     exact za1 (i+1,_,_,_) ⟨rfl,rfl,rfl,rfl,trivial⟩ rfl ⟨by omega,by omega,map_take _ g0 hc28 g2 rfl⟩ (by simp only []; omega)
    ·have hc28:=oD hc28
     have hV2:V2.map (·.s)=V.map (·.s):=by rw [g2,List.take_of_length_le (by omega)]
     refine za8 rfl (gS (gQ (zat 4 tf37 rfl rfl (vs:=[_,_]) rfl rfl) (zaA 5 tf37 rfl rfl (vs:=[_,_]) rfl rfl rfl rfl rfl (gN [2] rfl (zao 1 rfl (zao 2 rfl (zao 3 rfl (zbT 4 (za2 (R':=PlR yP ((ra,rc,S2),(rb,rd,V2)) ⟨S.map (·.s),V.map (·.s)⟩) 0 rfl (fun B w hA=>⟨hS2,hV2,hA⟩) (zaw (zbd ((ra,rc,S2),(rb,rd,V2)) 0 (zaC rfl (zbU (i:=2) (vs:=[_,_]) tf37 rfl rfl rfl rfl)) ?_ rfl)))))))))))
     rfl
noncomputable def daleT:ByteArray:=match Tryz.f45.body with
 | some (.seq _ (.seq (.region _ ops _) _))=>(match ops[0]? with
  | some o=>(match o.op with
   | .assign (.const (.string b))=>b
   | _=>⟨#[]⟩)
  | none=>⟨#[]⟩)
 | _=>⟨#[]⟩
theorem zvl  (w:World)  :
  Calls Tryz.prog 45 #[] w (Pure (.string daleT) w):=by
 refine zan (vs:=[]) Tryz.func45 rfl rfl (bL rfl) (gS (gA rfl (gN [0] rfl (gS (gA rfl (gN [0] rfl (zaw (zay (zaC rfl (zau rfl)) ?_))))))))
 rfl
theorem zpe:daleT.size≤40000:=by decide +kernel
end Go.Proofs.YteepmmghanbllaaGreatDoor
namespace Go.Pln
open Go Go.K Go.RowKit Go.Stn
def zdD (s:Sht):Int:=if s.cope=3 then s.short else s.tall
end Go.Pln
namespace Go.Pln
open Go Go.K Go.RowKit Go.Stn
structure zFA (v:Wll) (top:Int):Prop where
 len:1≤v.length∧v.length≤100000
 num:v.opens.length≤20
 fit:∀ o∈v.opens,zn8 v.length top o
theorem zoC {v:Wll} {top:Int} (h:zd1 top v=true):zFA v top:=by
 have h0:=zqW h
 obtain⟨h1,h2⟩:=zgM h0
 refine⟨h1,h2,fun o ho=>?_⟩
 rw [zgN,aT] at h
 obtain⟨i,hi,rfl⟩:=List.getElem_of_mem ho
 have:=zf7 (zdf.1 h.2 i hi)
 simpa [hi] using this
def zb6 (S:List ShC) (V:List WlC) (n:ByteArray):Int:=if zc4 S V=true then(if 0≤zaM V n then 0 else 6) else 2
def zhq (V:List WlC) (n:ByteArray):WlC:=if 0≤zaM V n then V.getD (zaM V n).toNat default else default
def zaN (S:List ShC) (V:List WlC) (n:ByteArray):WlC:=if zb6 S V n=0 then zhq V n else default
def zar (S:List ShC) (V:List WlC) (n:ByteArray):ShC:=if zb6 S V n=0 then zav S (zhq V n).s.sheet else default
theorem zm8 {S:List ShC} {V:List WlC} {n:ByteArray} (h:¬ zc4 S V=true):zb6 S V n=2:=if_neg h
theorem zkV {S:List ShC} {V:List WlC} {n:ByteArray} (h:zc4 S V=true) (h2:¬ 0≤zaM V n):zb6 S V n=6:=by unfold zb6; rw [if_pos h,if_neg h2]
theorem zpp {S:List ShC} {V:List WlC} {n:ByteArray} (h:zc4 S V=true) (h2:0≤zaM V n):zb6 S V n=0:=by unfold zb6; rw [if_pos h,if_pos h2]
theorem zjR {S:List ShC} {V:List WlC} {n:ByteArray} (h:zb6 S V n=0):zc4 S V=true∧0≤zaM V n:=by
 unfold zb6 at h
 by_cases h1:zc4 S V=true
 ·rw [if_pos h1] at h
  refine⟨h1,?_⟩
  by_cases h2:0≤zaM V n
  ·exact h2
  ·rw [if_neg h2] at h; exact absurd h (by decide)
 ·rw [if_neg h1] at h; exact absurd h (by decide)
theorem zid {V:List WlC} {n:ByteArray} (h:0≤zaM V n):zhq V n∈V:=by
 unfold zhq
 rw [if_pos h]
 exact za0 (by have:=zky h; omega)
theorem zhF {S:List ShC} {V:List WlC} {n:ByteArray} (h:zb6 S V n=0):zaN S V n=zhq V n:=if_pos h
theorem zhE {S:List ShC} {V:List WlC} {n:ByteArray} (h:zb6 S V n=0):zar S V n=zav S (zhq V n).s.sheet:=if_pos h
theorem zfu {S:List ShC} {V:List WlC} {n:ByteArray} (h:zb6 S V n=0):zaN S V n∈V∧zar S V n∈S∧za4 (zar S V n).s=true∧zFA (zaN S V n).s (zar S V n).s.height:=by
 obtain⟨h1,h2⟩:=zjR h
 rw [zhF h,zhE h]
 obtain⟨h3,h4⟩:=zf8 h1 _ (zid h2)
 exact⟨zid h2,zgp h3,zls h1 _ (zgp h3),zoC h4⟩
end Go.Pln
namespace Go.Pln
open Go Go.K Go.RowKit Go.Stn
theorem zlB {s:Sht} (h:za4 s=true):badP s=false:=by
 unfold za4 at h
 rw [aT,nT] at h
 exact h.1
theorem zlX {s:Sht} (h:za4 s=true) (h1:¬ s.cope=0):(1≤s.thick∧s.thick≤1000)∧(1≤s.tall∧s.tall≤1000)∧(1≤zdD s∧zdD s≤1000):=by
 have hb:=zlB h
 unfold badP at hb
 simp only [oF,nF] at hb
 have h2:=hb.2
 unfold zgh at h2
 rw [if_neg h1] at h2
 unfold zdD
 split at h2
 ·rename_i h3
  simp only [zcC,zdI,Bool.and_true,aT,zbp] at h2
  rw [if_neg (by omega)]
  omega
 ·split at h2
  ·rename_i h3
   simp only [zcC,zdI,Bool.and_true,aT,zbp] at h2
   rw [if_pos h3]
   omega
  ·cases h2
end Go.Pln
namespace Go.Pln
open Go Go.K Go.RowKit Go.Stn
section
variable {S S2:List ShC} {V V2:List WlC}
theorem zj7 {α β:Type} {f:α→β} {l m:List α} (h:m.map f=l.map f):m.length=l.length:=by
 have:=congrArg List.length h
 rwa [lM,lM] at this
theorem zml {α β:Type} {f:α→β} {Q:β→Prop} {l m:List α} (h:m.map f=l.map f) (hq:∀ z∈l,Q (f z)):∀ z∈m,Q (f z):=fun z hz=>by
 have:f z∈l.map f:=by rw [←h]; exact List.mem_map.2 ⟨z,hz,rfl⟩
 obtain⟨y,hy,e⟩:=List.mem_map.1 this
 rw [←e]; exact hq y hy
theorem zxz (h:S2.map (·.s)=S.map (·.s)) (i:Nat):(S2.getD i default).s=(S.getD i default).s:=by
 rw [←zeq (fun z:ShC=>z.s) rfl,h,zeq (fun z:ShC=>z.s) rfl]
theorem zwq (h:V2.map (·.s)=V.map (·.s)) (i:Nat):(V2.getD i default).s=(V.getD i default).s:=by
 rw [←zeq (fun z:WlC=>z.s) rfl,h,zeq (fun z:WlC=>z.s) rfl]
theorem zmQ {α β:Type} {f:α→β} {l m:List α} (h:m.map f=l.map f) (n:Nat) (p:β→Bool):(m.take n).any (fun z=>p (f z))=(l.take n).any (fun z=>p (f z)):=by
 have e:∀ k:List α,(k.take n).any (fun z=>p (f z))=((k.map f).take n).any p:=fun k=>by
  rw [←List.map_take,List.any_map]; rfl
 rw [e,e,h]
theorem zlA (h:S2.map (·.s)=S.map (·.s)) (n:ByteArray):zaS S2 n=zaS S n:=by rw [zeL,zeL,h]
theorem ziS (h:V2.map (·.s)=V.map (·.s)) (n:ByteArray):zaM V2 n=zaM V n:=by rw [zkx,zkx,h]
theorem zib (h:S2.map (·.s)=S.map (·.s)) (n:ByteArray):(zav S2 n).s=(zav S n).s:=by rw [zf2,zf2,h]
theorem zow (h:S2.map (·.s)=S.map (·.s)) (i:Nat):shAt S2 i=shAt S i:=by
 unfold shAt
 rw [zxz h i,zmQ h i (fun s:Sht=>s.name.toList == (S.getD i default).s.name.toList)]
theorem zoF (h:S2.map (·.s)=S.map (·.s)) (h2:V2.map (·.s)=V.map (·.s)) (i:Nat):wlAt S2 V2 i=wlAt S V i:=by
 unfold wlAt
 rw [zwq h2 i,zmQ h2 i (fun s:Wll=>s.name.toList == (V.getD i default).s.name.toList),zlA h,zib h]
theorem zmw (h:S2.map (·.s)=S.map (·.s)) (h2:V2.map (·.s)=V.map (·.s)):zc4 S2 V2=zc4 S V:=by
 unfold zc4
 rw [zj7 h,zj7 h2,show shAt S2=shAt S from funext (zow h),show wlAt S2 V2=wlAt S V from funext (zoF h h2)]
theorem zcK (h:S2.map (·.s)=S.map (·.s)) (h2:V2.map (·.s)=V.map (·.s)) (n:ByteArray):zb6 S2 V2 n=zb6 S V n:=by
 unfold zb6; rw [zmw h h2,ziS h2]
theorem zic (h2:V2.map (·.s)=V.map (·.s)) (n:ByteArray):(zhq V2 n).s=(zhq V n).s:=by
 unfold zhq
 rw [ziS h2]
 split
 ·exact zwq h2 _
 ·rfl
theorem zgc (h:S2.map (·.s)=S.map (·.s)) (h2:V2.map (·.s)=V.map (·.s)) (n:ByteArray):(zaN S2 V2 n).s=(zaN S V n).s:=by
 unfold zaN
 rw [zcK h h2]
 split
 ·exact zic h2 n
 ·rfl
theorem zeN (h:S2.map (·.s)=S.map (·.s)) (h2:V2.map (·.s)=V.map (·.s)) (n:ByteArray):(zar S2 V2 n).s=(zar S V n).s:=by
 unfold zar
 rw [zcK h h2]
 split
 ·rw [zib h,zic h2]
 ·rfl
end
end Go.Pln
namespace Go.Fld
open Go Go.K Go.Stn Go.Pln
structure Bdr where
 a:Int
 b:Int
 wall:ByteArray
 gA:Int
 gB:Int
 shut:Bool
instance:Inhabited Bdr:=⟨⟨0,0,⟨#[]⟩,0,0,false⟩⟩
abbrev zyr (x:Bdr):List Value:=[.int .i64 x.a,.int .i64 x.b,.string x.wall,.int .i64 x.gA,.int .i64 x.gB,.bool x.shut]
theorem zyx:Enc 6 zyr:=⟨fun _=>rfl,fun _=>rfl,by decide⟩
structure Anm where
 wide:Int
 high:Int
 step:Int
 leap:Int
 reach:Int
instance:Inhabited Anm:=⟨⟨0,0,0,0,0⟩⟩
abbrev zHc (x:Anm):List Value:=[.int .i64 x.wide,.int .i64 x.high,.int .i64 x.step,.int .i64 x.leap,.int .i64 x.reach]
structure Crg where
 frm:Int
 to:Int
 brd:Int
 way:Int
 eff:Int
instance:Inhabited Crg:=⟨⟨0,0,0,0,0⟩⟩
abbrev zzK (x:Crg):List Value:=[.int .i64 x.frm,.int .i64 x.to,.int .i64 x.brd,.int .i64 x.way,.int .i64 x.eff]
theorem zy5:Enc 5 zzK:=⟨fun _=>rfl,fun _=>rfl,by decide⟩
abbrev zyw (x:Crg×Crg):List Value:=[.int .i64 x.1.frm,.int .i64 x.1.to,.int .i64 x.1.brd,.int .i64 x.1.way,.int .i64 x.1.eff,.int .i64 x.2.frm,.int .i64 x.2.to,.int .i64 x.2.brd,.int .i64 x.2.way,.int .i64 x.2.eff]
theorem zyl:Enc 10 zyw:=⟨fun _=>rfl,fun _=>rfl,by decide⟩
def inZ (n lo hi:Int):Bool:=decide (lo≤n)&&decide (n≤hi)
def zy8 (s:Sht) (z:Int):Int:=if za4 s=true∧0≤z∧z≤s.height then zb5 s z else 0
def zzc (s:Sht) (g:Int):Int:=s.height+s.tall - g
def byG (s:Sht) (shut:Bool) (g h:Int) (o:Opn) (x:Anm):Int×Bool:=
 if o.width < x.wide then(0,false)
 else if o.kind=4 then(1,!shut)
 else if o.kind=3 then(max (o.frm - g) 0+1,decide (o.frm - g≤x.leap)&&decide (zy8 s o.frm≤x.reach))
 else(max (o.frm - g) 0+1,decide (o.frm - g≤x.step)&&decide (x.high≤o.frm+o.high - max (max o.frm g) h))
def btr (r:Int×Int) (n c:Int):Int×Int:=if (decide (r.1 = -2)||decide (c < r.2))=true then(n,c) else r
def zyB (s:Sht) (shut:Bool) (g h:Int) (l:List Opn) (x:Anm):Nat→Int×Int
 | 0=>(-2,0)
 | n+1=>if (byG s shut g h (l.getD n default) x).2=true then btr (zyB s shut g h l x n) n (byG s shut g h (l.getD n default) x).1 else zyB s shut g h l x n
def hopG (s:Sht) (g:Int) (x:Anm):Bool:=decide (zzc s g≤x.leap)&&decide (zy8 s s.height≤x.reach)
def zzX (s:Sht) (shut:Bool) (g h:Int) (l:List Opn) (x:Anm):Int×Int:=
 if hopG s g x=true then btr (zyB s shut g h l x l.length) (-1) (max (zzc s g) 0+1) else zyB s shut g h l x l.length
def mayR (s:Sht) (shut:Bool) (g h:Int) (l:List Opn) (x:Anm) (way:Int):Int×Bool:=
 if way = -1 then(1+max (zzc s g) 0,hopG s g x)
 else if way < 0∨(l.length:Int)≤way then(0,false)
 else
  let o:=l.getD way.toNat default
  if o.width < x.wide then(0,false)
  else if o.kind=4 then(1,!shut)
  else if o.kind=3 then(1+max (o.frm - g) 0,decide (o.frm - g≤x.leap)&&decide (zy8 s o.frm≤x.reach))
  else(1+max (o.frm - g) 0,decide (o.frm - g≤x.step)&&decide (x.high≤o.frm+o.high - max o.frm (max g h)))
structure Acr where
 way:Int
 eff:Int
 some:Bool
def wayN (l:List Opn) (n:Nat):Int:=if n=l.length then -1 else n
def acrN (s:Sht) (shut:Bool) (g h:Int) (l:List Opn) (x:Anm):Nat→Acr
 | 0=>⟨0,0,false⟩
 | n+1=>
  let r:=acrN s shut g h l x n
  let c:=mayR s shut g h l x (wayN l n)
  if (c.2&&(!r.some||decide (c.1 < r.eff)))=true then⟨wayN l n,c.1,true⟩ else r
def acrG (s:Sht) (shut:Bool) (g h:Int) (l:List Opn) (x:Anm):Acr:=acrN s shut g h l x (l.length+1)
section
variable {s:Sht} {shut:Bool} {g h:Int} {l:List Opn} {x:Anm}
theorem zHi {n:Nat} (hn:n < l.length):mayR s shut g h l x n=byG s shut g h (l.getD n default) x:=by
 have h1:¬ ((n:Int) = -1):=by omega
 have h2:¬ ((n:Int) < 0∨(l.length:Int)≤n):=by omega
 unfold mayR byG
 rw [if_neg h1,if_neg h2]
 simp only [Int.toNat_natCast]
 have e:∀ z:Int,1+max z 0=max z 0+1:=fun z=>by omega
 have e2:∀ o:Opn,max o.frm (max g h)=max (max o.frm g) h:=fun o=>by omega
 simp only [e,e2]
def zAN (r:Acr):Int×Int:=if r.some=true then(r.way,r.eff) else(-2,0)
theorem zBF:∀ n,n≤l.length→zAN (acrN s shut g h l x n)=zyB s shut g h l x n∧((acrN s shut g h l x n).some=true→0≤(acrN s shut g h l x n).way)
 | 0,_=>⟨rfl,fun h=>by cases h⟩
 | n+1,hn=>by
  obtain⟨h1,h2⟩:=zBF n (by omega)
  have hw:wayN l n=n:=if_neg (by omega)
  unfold acrN zyB
  simp only [hw,zHi (s:=s) (shut:=shut) (g:=g) (h:=h) (x:=x) (show n < l.length by omega)]
  generalize byG s shut g h (l.getD n default) x=c
  rw [←h1]
  generalize acrN s shut g h l x n=r at h2
  obtain⟨c1,c2⟩:=c
  obtain⟨w,e,b⟩:=r
  cases c2 with
  | false=>simpa using h2
  | true=>
   cases b with
   | false=>simp [zAN,btr]
   | true=>
    have h3:0≤w:=h2 rfl
    by_cases hc:c1 < e
    ·simp [zAN,btr,hc]
    ·have h4:¬ w = -2:=by omega
     simp [zAN,btr,hc,h4,h3]
theorem zED:zAN (acrG s shut g h l x)=zzX s shut g h l x:=by
 obtain⟨h1,h2⟩:=zBF (s:=s) (shut:=shut) (g:=g) (h:=h) (l:=l) (x:=x) l.length (Nat.le_refl _)
 have hw:wayN l l.length = -1:=if_pos rfl
 have hm:mayR s shut g h l x (-1)=(1+max (zzc s g) 0,hopG s g x):=if_pos rfl
 unfold acrG acrN zzX
 simp only [hw,hm]
 rw [←h1]
 have e1:1+max (zzc s g) 0=max (zzc s g) 0+1:=by omega
 rw [e1]
 generalize max (zzc s g) 0+1=c1
 generalize acrN s shut g h l x l.length=r at h2
 obtain⟨w,e,b⟩:=r
 cases hopG s g x with
 | false=>simp
 | true=>
  cases b with
  | false=>simp [zAN,btr]
  | true=>
   have h3:0≤w:=h2 rfl
   have h4:¬ w = -2:=by omega
   by_cases hc:c1 < e
   ·simp [zAN,btr,hc]
   ·simp [zAN,btr,hc,h4]
end
theorem zGH {s:Sht} (h:za4 s=true):0≤s.tall∧s.tall≤1000:=by
 by_cases hc:s.cope=0
 ·have hb:=zlB h
  unfold badP at hb
  simp only [oF,nF] at hb
  have h2:=hb.2
  unfold zgh at h2
  rw [if_pos hc] at h2
  simp only [aT,dT] at h2
  omega
 ·have:=(zlX h hc).2.1
  omega
structure Gnd (s:Sht) (v:Wll) (g h:Int):Prop where
 sp:za4 s=true
 wf:zFA v s.height
 g:-3000≤g∧g≤3000
 h:-3000≤h∧h≤3000
theorem Gnd.nums {s:Sht} {v:Wll} {g h:Int} (hg:Gnd s v g h):1≤s.height∧s.height≤3000∧0≤s.tall∧s.tall≤1000:=by
 have h1:=(zaZ hg.sp).height
 have h2:=zGH hg.sp
 omega
theorem zGy {s:Sht} {v:Wll} {g h:Int} (hg:Gnd s v g h):-3000≤zzc s g∧zzc s g≤7000:=by
 have:=hg.nums; have:=hg.g
 unfold zzc; omega
end Go.Fld
namespace Go.K
open Go Go.RowKit
def MapZ (b:Nat) (l:List (Int×Value)):Res where
 A B w:=(∀ j,B j↔j=b)∧∃ es clock,w.heap[b]?=some (.map es clock)∧es.toList.map (fun e=>(e.key,e.val))=l.map (fun s=>(Value.int .i64 s.1,s.2))
 loc _ _ _ h hA:=⟨hA.1,by obtain⟨es,clock,h1,h2⟩:=hA.2; exact⟨es,clock,(h b ((hA.1 b).2 rfl)).trans h1,h2⟩⟩
def zget:List (Int×Value)→Int→Option Value
 | [],_=>none
 | p :: r,n=>if n=p.1 then some p.2 else zget r n
def zput:List (Int×Value)→Int→Value→List (Int×Value)
 | [],n,v=>[(n,v)]
 | p :: r,n,v=>if n=p.1 then(n,v) :: r else p :: zput r n v
theorem zAG (n:Int):∀ (es:List MapEntry) (l:List (Int×Value)) (i:Nat),es.map (fun e=>(e.key,e.val))=l.map (fun s=>(Value.int .i64 s.1,s.2)) →
  (Instr.findNow (.int .i64) (.int .i64 n) es i=some none∧zget l n=none∧∀ u,zput l n u=l++[(n,u)]) ∨
  (∃ j v,Instr.findNow (.int .i64) (.int .i64 n) es i=some (some (i+j,v))∧zget l n=some v∧(es[j]?).map (·.key)=some (.int .i64 n)∧∀ u,zput l n u=l.set j (n,u))
 | [],[],i,_=>.inl ⟨rfl,rfl,fun _=>rfl⟩
 | [],_ :: _,_,h=>by simp at h
 | _ :: _,[],_,h=>by simp at h
 | e :: es,q :: l,i,h=>by
  simp only [List.map_cons,List.cons.injEq,Prod.mk.injEq] at h
  obtain⟨⟨h1,h2⟩,h3⟩:=h
  unfold Instr.findNow
  rw [h1]
  by_cases hq:n=q.1
  ·subst hq
   refine .inr ⟨0,q.2,?_,?_,?_,fun u=>?_⟩
   ·simp [Instr.sameNow,h2]
   ·simp [zget]
   ·simp [h1]
   ·simp [zput]
  ·have hb:(n == q.1)=false:=by simpa using hq
   rcases zAG n es l (i+1) h3 with ⟨g1,g2,g3⟩ | ⟨j,v,g1,g2,g3,g4⟩
   ·exact .inl ⟨by simpa [Instr.sameNow,hb] using g1,by simpa [zget,hq] using g2,fun u=>by simp [zput,hq,g3]⟩
   ·exact .inr ⟨j+1,v,by simpa [Instr.sameNow,hb,Nat.add_assoc,Nat.add_comm 1 j] using g1,by simpa [zget,hq] using g2,by simpa using g3,fun u=>by simp [zput,hq,g4]⟩
structure MZ (P:Program) (t k e:TypeId) (n:Nat) (ag:Bool) (z:Value):Prop where
 u:P.underlying t=some (.map k e)
 k:P.underlying k=some (.int .i64)
 e:TF P e ag n z
theorem zyX {k:TypeId} {P:Program} {w:World} (hk:P.underlying k=some (.int .i64)) (e:Bool) (n:Int):(Instr.checkKey e 10000 k (.int .i64 n)).run P w=.ok () w:=by
 unfold Instr.checkKey
 rw [zal (zaU hk)]
 rfl
section
variable {c:Cx} {ds:List Deferred} {p:Post} {T:List (Nat×Value)} {H:List Res} {ops:Array Oper} {rest:List Oper} {d:Option Nat} {ty:TypeId} {ps:String} {af:Array Edge} {g:Option (Nat×Bool)} {x y:Operand}
theorem zCB {t:TypeId}:YX c ds H T ⟨d,.makeMap t none,ty,ps,af,g⟩ (fun b=>.map (some b)) (fun b=>MapZ b []):=by
 refine⟨fun a w ha hw=>?_⟩
 unfold Yld
 have:(execOp a.eval ⟨d,.makeMap t none,ty,ps,af,g⟩).run c.P w=.ok (.value (.map (some w.heap.size))) (w.alloc (.map #[] 0)):=by
  simp only [execOp]
  exact zbu rfl
 rw [this]
 refine⟨w.heap.size,rfl,zcG _,(· = w.heap.size),fun k hk=>by subst hk; simp,fun k=>Iff.rfl,#[],0,World.alloc_heap_new w _,rfl⟩
theorem zAV {t k e:TypeId} {n:Nat} {ag:Bool} {z:Value} {b:Nat} {l:List (Int×Value)} {s:Int} (hm:MZ c.P t k e n ag z) (hx:evo T x=some (.map (some b))) (hy:evo T y=some (.int .i64 s)) (h:∀ w,Hp c.U c.w0 H w→Has w (MapZ b l)) :
  Y c ds H T ⟨d,.lookup t x y false,ty,ps,af,g⟩ ((zget l s).getD z):=
 zcz fun a w ha hw=>by
  obtain⟨B,_,_,es,clock,hb,hes⟩:=h w hw
  simp only [execOp,ha.eval hx,ha.eval hy]
  refine zbu ?_
  unfold Instr.lookup
  rw [zal (zaU hm.u)]
  dsimp only
  rw [zal (zjt hb)]
  dsimp only
  rw [zal (v:=es) (w':=w) rfl,zal (zyX hm.k _ s)]
  have hf:∀ r,Instr.findNow (.int .i64) (.int .i64 s) es.toList 0=some r→(Instr.findKey k (.int .i64 s) es.toList).run c.P w=.ok r w:=fun r hr=>by
   unfold Instr.findKey
   rw [zal (zaU hm.k),hr]
   rfl
  rcases zAG s es.toList l 0 hes with ⟨g1,g2,_⟩ | ⟨j,v,g1,g2,_,_⟩
  ·rw [g2,zal (hf _ g1)]
   dsimp only
   rw [zal hm.e.zero,zal (v:=((z,false):Value×Bool)) (w':=w) rfl]
   rfl
  ·rw [g2,zal (hf _ g1)]
   dsimp only
   rw [zal (v:=((v,true):Value×Bool)) (w':=w) rfl]
   rfl
theorem zA8 {t k e:TypeId} {z:Operand} {zz:Value} {n:Nat} {ag:Bool} {b:Nat} {l:List (Int×Value)} {s:Int} {u:Value} (i:Nat) (hm:MZ c.P t k e n ag zz) (hx:evo T x=some (.map (some b))) (hy:evo T y=some (.int .i64 s)) (hz:evo T z=some u) (hi:H[i]?=some (MapZ b l))
  (kk:GK c ds (KL c ops p rest) T (H.set i (MapZ b (zput l s u)))):GK c ds (KL c ops p (⟨none,.mapUpdate t x y z,ty,ps,af,none⟩ :: rest)) T H:=by
 refine zjZ rfl (fun a w ha hw=>?_) kk
 obtain⟨B0,hB0,hA0⟩:=hw.has hi
 obtain⟨hBb,es,clock,hb,hes⟩:=hA0
 have hput:∀ (o:Obj) (es':Array MapEntry) (clock':Nat),o=.map es' clock'→es'.toList.map (fun e=>(e.key,e.val))=(zput l s u).map (fun s=>(Value.int .i64 s.1,s.2)) →
   (Instr.mapUpdate t (.map (some b)) (.int .i64 s) u).run c.P w=.ok () (w.putObj b o) →
   Yld c.P ⟨none,.mapUpdate t x y z,ty,ps,af,none⟩ a w (fun _ w'=>Hp c.U c.w0 (H.set i (MapZ b (zput l s u))) w'):=by
  intro o es' clock' ho he hr
  subst ho
  unfold Yld
  have:(execOp a.eval ⟨none,.mapUpdate t x y z,ty,ps,af,none⟩).run c.P w=.ok .skip (w.putObj b (.map es' clock')):=by
   simp only [execOp,ha.eval hx,ha.eval hy,ha.eval hz]
   rw [zal hr]
   rfl
  rw [this]
  refine hw.upd hi fun B hB hA=>⟨B,zj8 ((hA.1 b).2 rfl),fun k hk=>.inl hk,hA.1,es',clock',?_,he⟩
  exact World.putObj_heap_same (hB0 b ((hBb b).2 rfl))
 have hfk:∀ r,Instr.findNow (.int .i64) (.int .i64 s) es.toList 0=some r→(Instr.findKey k (.int .i64 s) es.toList).run c.P w=.ok r w:=fun r hr=>by
  unfold Instr.findKey
  rw [zal (zaU hm.k),hr]
  rfl
 rcases zAG s es.toList l 0 hes with ⟨g1,_,g3⟩ | ⟨j,v,g1,_,g3,g4⟩
 ·refine hput _ (es.push { key:=.int .i64 s,val:=u,born:=clock }) (clock+1) rfl (by rw [g3]; simp [hes]) ?_
  unfold Instr.mapUpdate
  rw [zal (zaU hm.u)]
  dsimp only
  rw [zal (zjt hb)]
  dsimp only
  rw [zal (zyX hm.k _ s),zal (hfk _ g1)]
  dsimp only
  simp [setObj,Sem.run,hb,World.putObj]
 ·rw [Nat.zero_add] at g1
  have hk1:((es[j]?).map (·.key)).getD (.int .i64 s)=.int .i64 s:=by
   have:=g3
   rw [Array.getElem?_toList] at this
   rw [this]; rfl
  refine hput _ (es.modify j fun e=>{ e with key:=.int .i64 s,val:=u }) clock rfl ?_ ?_
  ·rw [g4,List.map_set,←hes]
   rw [Array.toList_modify]
   obtain⟨e0,he0⟩:∃ e0,es.toList[j]?=some e0:=by
    cases h:es.toList[j]? with
    | none=>rw [h] at g3; cases g3
    | some e0=>exact⟨e0,rfl⟩
   refine List.ext_getElem? fun m=>?_
   rw [List.getElem?_map,List.getElem?_modify,List.getElem?_set,List.getElem?_map]
   by_cases hm:j=m
   ·subst hm
    rw [he0]
    have hlt:j < es.size:=by simpa using (List.getElem?_eq_some_iff.1 he0).1
    simp [hlt]
   ·simp [hm]
  ·unfold Instr.mapUpdate
   rw [zal (zaU hm.u)]
   dsimp only
   rw [zal (zjt hb)]
   dsimp only
   rw [zal (zyX hm.k _ s),zal (hfk _ g1)]
   dsimp only
   rw [hk1]
   have hks:(Instr.keyThatStays (.int .i64 s) (.int .i64 s)).run c.P w=.ok (.int .i64 s) w:=by
    unfold Instr.keyThatStays
    rw [if_pos (by simp [Instr.sameBits])]
    rfl
   rw [zal hks]
   simp [setObj,Sem.run,hb,World.putObj]
end
section
variable {c:Cx} {ds:List Deferred} {T:List (Nat×Value)} {H:List Res} {d:Option Nat} {ty:TypeId} {ps:String} {af:Array Edge} {g:Option (Nat×Bool)}
theorem zHt {x y z:Operand} {tys:Array TypeId} {k:IntKind} {l m n:Int} (hx:evo T x=some (.int k l)) (hy:evo T y=some (.int k m)) (hz:evo T z=some (.int k n)) :
  Y c ds H T ⟨d,.call ⟨.builtin .max,#[x,y,z],tys⟩,ty,ps,af,g⟩ (.int k (max (max l m) n)):=
 zcz fun a w hs _=>by
  rw [zcp («as»:=[x,y,z]) (vs:=[.int k l,.int k m,.int k n]) (by simp [evs,hx,hy,hz]) hs w]
  simp only [builtin]
  refine zbu ?_
  show Result.ok (Value.int k (if n > (if m > l then m else l) then n else(if m > l then m else l))) w=_
  congr 2
  by_cases h:m > l
  ·rw [if_pos h,Int.max_eq_right (a:=l) (by omega)]
   by_cases h2:n > m
   ·rw [if_pos h2,Int.max_eq_right (by omega)]
   ·rw [if_neg h2,Int.max_eq_left (by omega)]
  ·rw [if_neg h,Int.max_eq_left (a:=l) (by omega)]
   by_cases h2:n > l
   ·rw [if_pos h2,Int.max_eq_right (by omega)]
   ·rw [if_neg h2,Int.max_eq_left (by omega)]
theorem zBZ {α:Type} {k:Nat} {enc:α→List Value} {x y:Operand} {t e:TypeId} {by_:Nat} {zs:List Value} {a a2:Option Addr} {cap c2:Nat} {l m:List α} (hf:AF c.P t e k by_ zs) (he:Enc k enc)
  (hx:evo T x=some (.slice a l.length cap)) (hy:evo T y=some (.slice a2 m.length c2)) (hm:∀ w,Hp c.U c.w0 H w→Has w (zaW a2 k enc m)) (hb:(l.length+m.length)*by_≤140737488355328) (hl:l.length+m.length≤maxLen) :
  zCC c ds T H ⟨d,.call ⟨.builtin .append,#[x,y],#[t,t]⟩,ty,ps,af,none⟩ (Row a k cap e enc l) (fun z:Option Addr×Nat=>.slice z.1 (l++m).length z.2) (fun z=>Row z.1 k z.2 e enc (l++m)):=by
 refine⟨fun A w B hs hw hB hA=>?_⟩
 obtain⟨a',cap',w',B',hr,hmd,ho,hA'⟩:=zfU (P:=c.P) (ty:=ty) hf he (c2:=c2) hA (hm w hw) hb hl
 unfold Yld
 rw [zcp («as»:=[x,y]) (vs:=[.slice a l.length cap,.slice a2 m.length c2]) (by simp [evs,hx,hy]) hs w]
 simp only [builtin]
 rw [zbu hr]
 exact⟨(a',cap'),rfl,hmd,B',ho,hA'⟩
end
end Go.K
namespace Go.Proofs.YteepmmghanbllaaGreatDoor
open Go.K Go.Stn Go.Pln Go.Fld Go.RowKit
theorem en75:En Tryz.prog 75:=eK Tryz.func75
theorem zFn  (w:World):(Instr.build 116 #[]).run Tryz.prog w=.ok (.agg #[.string ⟨#[]⟩,.string ⟨#[]⟩,.int .i64 0,.slice none 0 0]) w:=by kernel_rfl
theorem zG4  (w:World):(Instr.buildSlice 45 0 #[]).run Tryz.prog w=.ok (.slice (some ⟨w.heap.size,0,none⟩) 0 0) (w.alloc (.cells (([]:List (Int)).flatMap Go.Stn.encI).toArray 3)):=by kernel_rfl
theorem zFO  (w:World):(Instr.buildSlice 114 0 #[]).run Tryz.prog w=.ok (.slice (some ⟨w.heap.size,0,none⟩) 0 0) (w.alloc (.cells (([]:List (Opn)).flatMap zba).toArray 122)):=by kernel_rfl
theorem zrM {α:Type} {k:Nat} {enc:α→List Value} {w:World} {a:Option Addr} {l:List α} (h:Has w (zaW a k enc l)) (hn:a.isNone=true):l=[]:=by
 obtain⟨B,_,hA⟩:=h
 rcases hA with h | ⟨b,off,ha,_⟩
 ·exact h
 ·rw [ha] at hn; cases hn
theorem zrd (a:Option Addr) (cap:Nat) (l:List Opn) (w:World) (hl:Has w (zaW a 5 zba l)) (hs:zaP l.length) :
  Calls Tryz.prog 81 #[.slice a l.length cap] w (zcU (fun z:Option Addr×Nat=>.slice z.1 l.length z.2) (fun z=>Row z.1 5 z.2 122 zba l) w):=by
 refine zan (vs:=[_]) Tryz.func81 rfl rfl (bL rfl) (gS (gA rfl (gN [0,2] rfl (zac (gS (gM rfl (gQ (zuU (Tryz.underlying114) rfl rfl) (gN [0,2,4] rfl (zap rfl (fun hc4=>?_) (fun hc4=>?_))))))))))
 ·have hL:l=[]:=zrM hl hc4
  subst hL
  refine zbB 122 zba 5 (gS (gA rfl (gN [0,2] rfl (zaw (zbd (none,0) 0 (zaC rfl (zau rfl)) ?_ rfl)))))
  rfl
 ·
  refine zaq (gS (zaG rfl rfl (zaD rfl (zFO) zyn rfl) fun b5=>(gM rfl (zb4 (m:=l) 0 zFD zyn rfl rfl rfl rfl (fun _=>rH hl) (by unfold zaP at hs; simp only [lN]; omega) (by unfold zaP at hs; simp only [lN,maxLen]; omega) fun a7 c7=>(gA rfl (gN [2] rfl (zaw (zbd (a7,c7) 0 (zaC rfl (zau rfl)) ?_ rfl))))))))
  rfl
theorem zya (a:Option Addr) (cap:Nat) (l:List Int) (w:World) (hl:Has w (Ints a l)) (hs:zaP l.length) :
  Calls Tryz.prog 82 #[.slice a l.length cap] w (zcU (fun z:Option Addr×Nat=>.slice z.1 l.length z.2) (fun z=>Row z.1 1 z.2 3 Go.Stn.encI l) w):=by
 refine zan (vs:=[_]) Tryz.func82 rfl rfl (bL rfl) (gS (gA rfl (gN [0,2] rfl (zac (gS (gM rfl (gQ (zuU (Tryz.underlying45) rfl rfl) (gN [0,2,4] rfl (zap rfl (fun hc4=>?_) (fun hc4=>?_))))))))))
 ·have hL:l=[]:=zrM hl hc4
  subst hL
  refine zbB 3 Go.Stn.encI 1 (gS (gA rfl (gN [0,2] rfl (zaw (zbd (none,0) 0 (zaC rfl (zau rfl)) ?_ rfl)))))
  rfl
 ·
  refine zaq (gS (zaG rfl rfl (zaD rfl (zG4) Go.Stn.encI_ok rfl) fun b5=>(gM rfl (zb4 (m:=l) 0 af45 Go.Stn.encI_ok rfl rfl rfl rfl (fun _=>rH hl) (by unfold zaP at hs; simp only [lN]; omega) (by unfold zaP at hs; simp only [lN,maxLen]; omega) fun a7 c7=>(gA rfl (gN [2] rfl (zaw (zbd (a7,c7) 0 (zaC rfl (zau rfl)) ?_ rfl))))))))
  rfl
theorem zhG {w:World} {S:List ShC} {V:List WlC} {n:ByteArray} (h:∀ z∈S,Has w (Ints z.a z.s.heights)):Has w (Ints (zar S V n).a (zar S V n).s.heights):=by
 unfold zar
 split
 ·exact zpL h
 ·exact⟨fun _=>False,fun _ h=>h.elim,.inl rfl⟩
theorem zfL {w:World} {S:List ShC} {V:List WlC} {n:ByteArray} (h:∀ z∈V,Has w (zaW z.a 5 zba z.s.opens)):Has w (zaW (zaN S V n).a 5 zba (zaN S V n).s.opens):=by
 unfold zaN zhq
 split
 ·split
  ·rename_i hk
   exact h _ (za0 (by have:=zky hk; omega))
  ·exact⟨fun _=>False,fun _ h=>h.elim,.inl rfl⟩
 ·exact⟨fun _=>False,fun _ h=>h.elim,.inl rfl⟩
theorem zm9 (a:Option Addr) (cap:Nat) (S:List ShC) (b:Option Addr) (bcap:Nat) (V:List WlC) (n:ByteArray) (w:World) (hl:Has w (zaW a 20 zbH S)) (hs:zaP S.length) (hcS:S.length≤cap) (hlw:Has w (zaW b 4 zbS V)) (hsw:zaP V.length) (hsh:∀ z∈S,Has w (Ints z.a z.s.heights)) (hss:∀ z∈S,zaP z.s.heights.length) (hwo:∀ z∈V,Has w (zaW z.a 5 zba z.s.opens)) (hsv:∀ z∈V,zaP z.s.opens.length) (hcp:∀ z∈V,z.s.opens.length≤z.cap) (hkn:∀ z∈V,∀ o∈z.s.opens,Knd o) :
  Calls Tryz.prog 80 #[.agg #[.slice a S.length cap,.slice b V.length bcap],.string n] w (Pure (.tuple #[.agg (zbS (zaN S V n)).toArray,.agg (zbH (zar S V n)).toArray,.int .i64 (zb6 S V n)]) w):=by
 have hlt:=fun h=>zky (S:=V) (n:=n) h
 have hge:-1≤zaM V n:=zrp _ _
 refine zan (vs:=[_,_]) Tryz.func80 rfl rfl (bL rfl) (gS (zaG rfl rfl (za3 (vs:=[_,_]) rfl rfl) fun b2=>(zaG rfl rfl (zaL zyz (zs:=[_,_,_,_]) rfl) fun b4=>(zaG rfl rfl (zaL zyq (zs:=[_,_,_,_,_,_,_,_,_,_,_,_,_,_,_,_,_,_,_,_]) rfl) fun b5=>(gA rfl (gN [1,2,4,5,6] rfl (zac (gS (gQ (zat 2 tf37 rfl rfl (vs:=[_,_]) rfl rfl) (gQ (zaJ en75 rfl (fun w hw=>ztt _ _ S _ _ V w (rH hl hw) hs hcS (rH hlw hw) hsw (fun z hz=>(rH (hsh z hz) hw)) hss (fun z hz=>(rH (hwo z hz) hw)) hsv hcp hkn)) (gA rfl (gN [1,2,4,5,6,7] rfl (gS (gM rfl (gQ (zcr rfl rfl) (gN [1,2,4,5,6,7,14] rfl (zap rfl (fun hc14=>?_) (fun hc14=>?_))))))))))))))))))
 ·have hP:¬ zc4 S V=true:=fun h=>by rw [zeW,if_pos h] at hc14; simp at hc14
  have hE:zb6 S V n=2:=zm8 hP
  have hC:zeW S V=2:=if_neg hP
  refine gS (gQ (zaI (parts:=[]) rfl zFn) (gQ (zaI (parts:=[]) rfl zDu) (gM rfl (zaA 1 zyz rfl rfl (vs:=[_,_,_,_]) rfl rfl rfl rfl rfl (zbz 0 zyq rfl rfl (vs:=[_,_,_,_,_,_,_,_,_,_,_,_,_,_,_,_,_,_,_,_]) rfl rfl rfl rfl rfl (gA rfl (gN [1,2,4,5,6] rfl (zaw (zay (zdh rfl (zbU (i:=1) (vs:=[_,_,_,_]) zyz rfl rfl rfl rfl) (zbU (i:=0) (vs:=[.string ⟨#[]⟩,.int .i64 0,.int .i64 0,.int .i64 0,.int .i64 0,.slice none 0 0,.int .i64 0,.int .i64 0,.int .i64 0,.int .i64 0,.int .i64 0,.int .i64 0,.int .i64 0,.int .u8 0,.int .i64 0,.int .i64 0,.int .i64 0,.int .i64 0,.int .i64 0,.int .i64 0]) zyq rfl rfl rfl rfl) (zau rfl)) ?_)))))))))
  rw [hC]; rw [show zaN S V n=default from if_neg (by rw [hE]; decide),show zar S V n=default from if_neg (by rw [hE]; decide),hE]; rfl
 ·have hP:zc4 S V=true:=Classical.byContradiction fun h=>by rw [zeW,if_neg h] at hc14; simp at hc14
  refine zaq (gS (gQ (zat 2 tf37 rfl rfl (vs:=[_,_]) rfl rfl) (gM rfl (gQ (zaJ zw0 rfl (fun w hw=>zkg _ _ _ _ _ V _ w (rH hlw hw) (by assumption))) (gA rfl (gN [2,4,5,6,8] rfl (zac (gS (gM rfl (gQ (zbw rfl rfl) (gN [2,4,5,6,8,22] rfl (zap rfl (fun hc22=>?_) (fun hc22=>?_)))))))))))))
  ·have hc22:=oT hc22
   have hE:zb6 S V n=6:=zkV hP (by omega)
   refine gS (gQ (zaI (parts:=[]) rfl zFn) (gQ (zaI (parts:=[]) rfl zDu) (zaA 1 zyz rfl rfl (vs:=[_,_,_,_]) rfl rfl rfl rfl rfl (zbz 0 zyq rfl rfl (vs:=[_,_,_,_,_,_,_,_,_,_,_,_,_,_,_,_,_,_,_,_]) rfl rfl rfl rfl rfl (gA rfl (gN [2,4,5,6,8] rfl (zaw (zay (zdh rfl (zbU (i:=1) (vs:=[_,_,_,_]) zyz rfl rfl rfl rfl) (zbU (i:=0) (vs:=[.string ⟨#[]⟩,.int .i64 0,.int .i64 0,.int .i64 0,.int .i64 0,.slice none 0 0,.int .i64 0,.int .i64 0,.int .i64 0,.int .i64 0,.int .i64 0,.int .i64 0,.int .i64 0,.int .u8 0,.int .i64 0,.int .i64 0,.int .i64 0,.int .i64 0,.int .i64 0,.int .i64 0]) zyq rfl rfl rfl rfl) (zau rfl)) ?_))))))))
   rw [show zaN S V n=default from if_neg (by rw [hE]; decide),show zar S V n=default from if_neg (by rw [hE]; decide),hE]; rfl
  ·have hc22:=oD hc22
   have h0:0≤zaM V n:=by omega
   have h1:=hlt h0
   have hE:zb6 S V n=0:=zpp hP h0
   refine zaq (zac (zCs [] (ch [(11,Nat)]) 1000 14 [0,0,2,0,14,30,62,127,255,511,511,0,3071,8191] [] rfl (fun _=>mixed) (by kernel_rfl) (zjK _ ⟨inferInstance,trivial⟩) (pY (fun ρ=>zat 2 tf37 rfl rfl (vs:=[_,_]) rfl rfl) (pY (fun ρ=>zab zna rfl) (pY (fun ρ=>zah 2 tf35 rfl rfl rfl) (pY (fun ρ=>zaf rfl) (pY (fun ρ=>zaE se35 rfl rfl (fun _=>rH hlw)) (pY (fun ρ=>zbh zBo rfl (fun w hw=>zaO (i:=(zaM V n)) (rH hlw hw))) (pY (fun ρ=>zbn tf9 rfl (fun _=>rH hlw) (by omega) (by omega) rfl) (pY (fun ρ=>zaJ zDb rfl (fun w hw=>zeu _ _ S _ _ _ _ w (rH hl hw) (by assumption))) (pY (fun ρ=>zaf rfl) (pY (fun ρ=>zaB rfl rfl) (pY (fun ρ=>zaB rfl rfl) (zFy (fun ρ=>zaL zyq (zs:=[_,_,_,_,_,_,_,_,_,_,_,_,_,_,_,_,_,_,_,_]) rfl) (fun ρ ρ' h=>⟨by rfl,by rfl⟩) ?_))))))))))))))
   refine zIb (R:=fun ρ=>Box (ρ 11) [.string ⟨#[]⟩,.int .i64 0,.int .i64 0,.int .i64 0,.int .i64 0,.slice none 0 0,.int .i64 0,.int .i64 0,.int .i64 0,.int .i64 0,.int .i64 0,.int .i64 0,.int .i64 0,.int .u8 0,.int .i64 0,.int .i64 0,.int .i64 0,.int .i64 0,.int .i64 0,.int .i64 0] 118) (A:=fun ρ=>Box (ρ 11) [.string (zav S ((V.getD ((zaM V n)).toNat default).s.sheet)).s.name,.int .i64 ((zav S ((V.getD ((zaM V n)).toNat default).s.sheet)).s.base),.int .i64 ((zav S ((V.getD ((zaM V n)).toNat default).s.sheet)).s.batter),.int .i64 ((zav S ((V.getD ((zaM V n)).toNat default).s.sheet)).s.height),.int .i64 ((zav S ((V.getD ((zaM V n)).toNat default).s.sheet)).s.skin),.slice (zav S ((V.getD ((zaM V n)).toNat default).s.sheet)).a (zav S ((V.getD ((zaM V n)).toNat default).s.sheet)).s.heights.length (zav S ((V.getD ((zaM V n)).toNat default).s.sheet)).cap,.int .i64 ((zav S ((V.getD ((zaM V n)).toNat default).s.sheet)).s.least),.int .i64 ((zav S ((V.getD ((zaM V n)).toNat default).s.sheet)).s.lap),.int .i64 ((zav S ((V.getD ((zaM V n)).toNat default).s.sheet)).s.run),.int .i64 ((zav S ((V.getD ((zaM V n)).toNat default).s.sheet)).s.every),.int .i64 ((zav S ((V.getD ((zaM V n)).toNat default).s.sheet)).s.at_),.int .i64 ((zav S ((V.getD ((zaM V n)).toNat default).s.sheet)).s.footing),.int .i64 ((zav S ((V.getD ((zaM V n)).toNat default).s.sheet)).s.spread),.int .u8 (zav S ((V.getD ((zaM V n)).toNat default).s.sheet)).s.cope,.int .i64 ((zav S ((V.getD ((zaM V n)).toNat default).s.sheet)).s.tall),.int .i64 ((zav S ((V.getD ((zaM V n)).toNat default).s.sheet)).s.short),.int .i64 ((zav S ((V.getD ((zaM V n)).toNat default).s.sheet)).s.thick),.int .i64 ((zav S ((V.getD ((zaM V n)).toNat default).s.sheet)).s.low),.int .i64 ((zav S ((V.getD ((zaM V n)).toNat default).s.sheet)).s.high),.int .i64 ((zav S ((V.getD ((zaM V n)).toNat default).s.sheet)).s.rood)] 118) 11 rfl rfl (fun _=>rfl) (fun ρ=>zex zyq rfl rfl (vs:=[_,_,_,_,_,_,_,_,_,_,_,_,_,_,_,_,_,_,_,_]) rfl rfl rfl rfl rfl) (fun ρ ρ' h=>by(first | rfl | (simp only [h 11 rfl]; done) | (simp only [h 11 rfl]; rfl))) ?_
   refine pY (fun ρ=>zad rfl) ?_
   refine fun ρ=>zag (zf4 (X:=Nat) (ρ 11) (fun b9=>[(2,.pointer (some ⟨b2,0,none⟩)),(4,.pointer (some ⟨b4,0,none⟩)),(5,.pointer (some ⟨b5,0,none⟩)),(6,.int .i64 0),(8,.int .i64 (zaM V n)),(9,.pointer (some ⟨b9,0,none⟩))]) (fun b9=>[Box b9 [.string (zav S ((V.getD ((zaM V n)).toNat default).s.sheet)).s.name,.int .i64 ((zav S ((V.getD ((zaM V n)).toNat default).s.sheet)).s.base),.int .i64 ((zav S ((V.getD ((zaM V n)).toNat default).s.sheet)).s.batter),.int .i64 ((zav S ((V.getD ((zaM V n)).toNat default).s.sheet)).s.height),.int .i64 ((zav S ((V.getD ((zaM V n)).toNat default).s.sheet)).s.skin),.slice (zav S ((V.getD ((zaM V n)).toNat default).s.sheet)).a (zav S ((V.getD ((zaM V n)).toNat default).s.sheet)).s.heights.length (zav S ((V.getD ((zaM V n)).toNat default).s.sheet)).cap,.int .i64 ((zav S ((V.getD ((zaM V n)).toNat default).s.sheet)).s.least),.int .i64 ((zav S ((V.getD ((zaM V n)).toNat default).s.sheet)).s.lap),.int .i64 ((zav S ((V.getD ((zaM V n)).toNat default).s.sheet)).s.run),.int .i64 ((zav S ((V.getD ((zaM V n)).toNat default).s.sheet)).s.every),.int .i64 ((zav S ((V.getD ((zaM V n)).toNat default).s.sheet)).s.at_),.int .i64 ((zav S ((V.getD ((zaM V n)).toNat default).s.sheet)).s.footing),.int .i64 ((zav S ((V.getD ((zaM V n)).toNat default).s.sheet)).s.spread),.int .u8 (zav S ((V.getD ((zaM V n)).toNat default).s.sheet)).s.cope,.int .i64 ((zav S ((V.getD ((zaM V n)).toNat default).s.sheet)).s.tall),.int .i64 ((zav S ((V.getD ((zaM V n)).toNat default).s.sheet)).s.short),.int .i64 ((zav S ((V.getD ((zaM V n)).toNat default).s.sheet)).s.thick),.int .i64 ((zav S ((V.getD ((zaM V n)).toNat default).s.sheet)).s.low),.int .i64 ((zav S ((V.getD ((zaM V n)).toNat default).s.sheet)).s.high),.int .i64 ((zav S ((V.getD ((zaM V n)).toNat default).s.sheet)).s.rood)] 118,Box b5 [.string ⟨#[]⟩,.int .i64 0,.int .i64 0,.int .i64 0,.int .i64 0,.slice none 0 0,.int .i64 0,.int .i64 0,.int .i64 0,.int .i64 0,.int .i64 0,.int .i64 0,.int .i64 0,.int .u8 0,.int .i64 0,.int .i64 0,.int .i64 0,.int .i64 0,.int .i64 0,.int .i64 0] 118,Box b4 [.string ⟨#[]⟩,.string ⟨#[]⟩,.int .i64 0,.slice none 0 0] 116,Box b2 [.slice a S.length cap,.slice b V.length bcap] 37]) (sB rfl) rfl ?_)
   rintro b9
   refine zac (zpN (R':=Box b4 (wV ((V.getD ((zaM V n)).toNat default).s) ((V.getD ((zaM V n)).toNat default).a) ((V.getD ((zaM V n)).toNat default).cap)) 116) 6 [5] 2 (fun _=>mixed) rfl rfl (by kernel_rfl) rfl (zcf (zab zna rfl) (zcf (zah 3 tf35 rfl rfl rfl) (zcf (zaf rfl) (zcf (zaE se35 rfl rfl (fun _=>rH hlw)) (zcf (zbv (vs:=[_,_,_,_]) zyz rfl (fun _=>rH hlw) (by omega) (by omega) rfl) (zcf (zat 0 zyq rfl rfl (vs:=[_,_,_,_,_,_,_,_,_,_,_,_,_,_,_,_,_,_,_,_]) rfl rfl) (⟨zex zyz rfl rfl (vs:=[_,_,_,_]) rfl rfl rfl rfl rfl,?_⟩))))))))
   refine gK [4,5,6,41] rfl (zbz 1 zyq rfl rfl (vs:=[_,_,_,_,_,_,_,_,_,_,_,_,_,_,_,_,_,_,_,_]) rfl rfl rfl rfl rfl (gA rfl (gN [4,5,6] rfl (zaw ?_))))
   refine zay (zdh rfl (zbU (i:=2) (vs:=[_,_,_,_]) zyz rfl rfl rfl rfl) (zbU (i:=1) (vs:=[.string (zav S ((V.getD ((zaM V n)).toNat default).s.sheet)).s.name,.int .i64 ((zav S ((V.getD ((zaM V n)).toNat default).s.sheet)).s.base),.int .i64 ((zav S ((V.getD ((zaM V n)).toNat default).s.sheet)).s.batter),.int .i64 ((zav S ((V.getD ((zaM V n)).toNat default).s.sheet)).s.height),.int .i64 ((zav S ((V.getD ((zaM V n)).toNat default).s.sheet)).s.skin),.slice (zav S ((V.getD ((zaM V n)).toNat default).s.sheet)).a (zav S ((V.getD ((zaM V n)).toNat default).s.sheet)).s.heights.length (zav S ((V.getD ((zaM V n)).toNat default).s.sheet)).cap,.int .i64 ((zav S ((V.getD ((zaM V n)).toNat default).s.sheet)).s.least),.int .i64 ((zav S ((V.getD ((zaM V n)).toNat default).s.sheet)).s.lap),.int .i64 ((zav S ((V.getD ((zaM V n)).toNat default).s.sheet)).s.run),.int .i64 ((zav S ((V.getD ((zaM V n)).toNat default).s.sheet)).s.every),.int .i64 ((zav S ((V.getD ((zaM V n)).toNat default).s.sheet)).s.at_),.int .i64 ((zav S ((V.getD ((zaM V n)).toNat default).s.sheet)).s.footing),.int .i64 ((zav S ((V.getD ((zaM V n)).toNat default).s.sheet)).s.spread),.int .u8 (zav S ((V.getD ((zaM V n)).toNat default).s.sheet)).s.cope,.int .i64 ((zav S ((V.getD ((zaM V n)).toNat default).s.sheet)).s.tall),.int .i64 ((zav S ((V.getD ((zaM V n)).toNat default).s.sheet)).s.short),.int .i64 ((zav S ((V.getD ((zaM V n)).toNat default).s.sheet)).s.thick),.int .i64 ((zav S ((V.getD ((zaM V n)).toNat default).s.sheet)).s.low),.int .i64 ((zav S ((V.getD ((zaM V n)).toNat default).s.sheet)).s.high),.int .i64 ((zav S ((V.getD ((zaM V n)).toNat default).s.sheet)).s.rood)]) zyq rfl rfl rfl rfl) (zau rfl)) ?_
   rw [zhF hE,zhE hE,hE,show zhq V n=V.getD (zaM V n).toNat default from if_pos h0]
theorem en80:En Tryz.prog 80:=eK Tryz.func80
theorem en81:En Tryz.prog 81:=eK Tryz.func81
theorem en82:En Tryz.prog 82:=eK Tryz.func82
theorem zxT {S:List ShC} {V:List WlC} {n:ByteArray} (h1:∀ z∈V,zaP z.s.opens.length) (h2:∀ z∈S,zaP z.s.heights.length):zaP (zaN S V n).s.opens.length∧zaP (zar S V n).s.heights.length:=by
 constructor
 ·unfold zaN zhq
  split
  ·split
   ·rename_i hk
    exact h1 _ (za0 (by have:=zky hk; omega))
   ·decide
  ·decide
 ·unfold zar
  split
  ·exact zrs (P:=fun z=>zaP z.s.heights.length) h2 (by decide)
  ·decide
theorem zyh (a:Option Addr) (cap:Nat) (S:List ShC) (b:Option Addr) (bcap:Nat) (V:List WlC) (n:ByteArray) (w:World) (hl:Has w (zaW a 20 zbH S)) (hs:zaP S.length) (hcS:S.length≤cap) (hlw:Has w (zaW b 4 zbS V)) (hsw:zaP V.length) (hsh:∀ z∈S,Has w (Ints z.a z.s.heights)) (hss:∀ z∈S,zaP z.s.heights.length) (hwo:∀ z∈V,Has w (zaW z.a 5 zba z.s.opens)) (hsv:∀ z∈V,zaP z.s.opens.length) (hcp:∀ z∈V,z.s.opens.length≤z.cap) (hkn:∀ z∈V,∀ o∈z.s.opens,Knd o) :
  Calls Tryz.prog 50 #[.agg #[.slice a S.length cap,.slice b V.length bcap],.string n] w (zcU (fun z:(Option Addr×Nat)×(Option Addr×Nat)=>.tuple #[.agg (zbS ⟨(zaN S V n).s,z.1.1,z.1.2⟩).toArray,.agg (zbH ⟨(zar S V n).s,z.2.1,z.2.2⟩).toArray,.int .i64 (zb6 S V n)]) (fun z=>SepR [Row z.1.1 5 z.1.2 122 zba (zaN S V n).s.opens,Row z.2.1 1 z.2.2 3 Go.Stn.encI (zar S V n).s.heights]) w):=by
 obtain⟨hsvw,hsss⟩:=zxT (n:=n) hsv hss
 refine zan (vs:=[_,_]) Tryz.func50 rfl rfl (bL rfl) (gS (zaG rfl rfl (za3 (vs:=[_,_]) rfl rfl) fun b2=>(zaG rfl rfl (zaL zyz (zs:=[_,_,_,_]) rfl) fun b4=>(zaG rfl rfl (zaL zyq (zs:=[_,_,_,_,_,_,_,_,_,_,_,_,_,_,_,_,_,_,_,_]) rfl) fun b5=>(gA rfl (gN [1,2,4,5,6] rfl (gS (gQ (zat 2 tf37 rfl rfl (vs:=[_,_]) rfl rfl) (gM rfl (gQ (zaJ en80 rfl (fun w hw=>zm9 _ _ S _ _ V n w (rH hl hw) hs hcS (rH hlw hw) hsw (fun z hz=>(rH (hsh z hz) hw)) hss (fun z hz=>(rH (hwo z hz) hw)) hsv hcp hkn)) (gM rfl (gQ (zaB rfl rfl) (gQ (zaB rfl rfl) (gQ (zaB rfl rfl) (zaG rfl rfl (zaL zyz (zs:=[_,_,_,_]) rfl) fun b7=>(zaG rfl rfl (zaL zyq (zs:=[_,_,_,_,_,_,_,_,_,_,_,_,_,_,_,_,_,_,_,_]) rfl) fun b8=>(zaA 1 zyz rfl rfl (vs:=[_,_,_,_]) rfl rfl rfl rfl rfl (zbz 0 zyq rfl rfl (vs:=[_,_,_,_,_,_,_,_,_,_,_,_,_,_,_,_,_,_,_,_]) rfl rfl rfl rfl rfl (gA rfl (gN [4,5,6,7,8,9] rfl (zac (gZ 7 (ph_y (zab zyL rfl) (ph_y (zah 1 zAi rfl rfl rfl) (zmr (zbm en81 rfl (fun w hw=>zrd _ _ (zaN S V n).s.opens w (rH (zfL hwo) hw) (hsvw))) (ph_y (zab zzi rfl) (ph_y (zah 0 tf45 rfl rfl rfl) ?_)))))))))))))))))))))))))))
 refine zmr (fun p19=>zbm en82 rfl (fun w hw=>zya _ _ (zar S V n).s.heights w (rH (zhG hsh) hw) (hsss))) (ph_y (fun p19=>zab zyL rfl) ?_)
 intro p22
 intro p19
 refine gK [4,5,6,7,8,9,19,22,23] rfl (zaA 3 zAi rfl rfl (vs:=[_]) rfl rfl rfl rfl rfl (gQ (zab zzi rfl) (zaA 2 tf45 rfl rfl (vs:=[_]) rfl rfl rfl rfl rfl (gN [4,5,6,7,8,9] rfl (zac (zao 4 rfl (zao 5 rfl (zCs [_,_] (ch []) 1000 6 [0,0,0,1,11,31] [] rfl (fun _=>mixed) (by kernel_rfl) (zjK _ trivial) (pY (fun ρ=>zat 3 zyz rfl rfl (vs:=[_,_,_,_]) rfl rfl) (pY (fun ρ=>zat 2 zyq rfl rfl (vs:=[_,_,_,_,_,_,_,_,_,_,_,_,_,_,_,_,_,_,_,_]) rfl rfl) (pY (fun ρ=>zaf rfl) (zBT (R:=fun ρ=>Box b4 [.string ⟨#[]⟩,.string ⟨#[]⟩,.int .i64 0,.slice none 0 0] 116) (A:=fun ρ=>Box b4 (wV ((zaN S V n).s) p19.1 p19.2) 116) 1000 rfl (by kernel_rfl) (by kernel_rfl) (fun _=>by kernel_rfl) (fun ρ=>zex zyz rfl rfl (vs:=[_,_,_,_]) rfl rfl rfl rfl rfl) (fun ρ ρ' h=>by rfl) (zBT (R:=fun ρ=>Box b5 [.string ⟨#[]⟩,.int .i64 0,.int .i64 0,.int .i64 0,.int .i64 0,.slice none 0 0,.int .i64 0,.int .i64 0,.int .i64 0,.int .i64 0,.int .i64 0,.int .i64 0,.int .i64 0,.int .u8 0,.int .i64 0,.int .i64 0,.int .i64 0,.int .i64 0,.int .i64 0,.int .i64 0] 118) (A:=fun ρ=>Box b5 (sV ((zar S V n).s) p22.1 p22.2) 118) 1001 rfl (by kernel_rfl) (by kernel_rfl) (fun _=>by kernel_rfl) (fun ρ=>zex zyq rfl rfl (vs:=[_,_,_,_,_,_,_,_,_,_,_,_,_,_,_,_,_,_,_,_]) rfl rfl rfl rfl rfl) (fun ρ ρ' h=>by rfl) ?_)))))))))))))
 refine pY (fun ρ=>zad rfl) (fun ρ=>zag (zpT (T':=[(4,.pointer (some ⟨b4,0,none⟩)),(5,.pointer (some ⟨b5,0,none⟩)),(6,.int .i64 (zb6 S V n))]) (H':=[Box b4 (wV ((zaN S V n).s) p19.1 p19.2) 116,Box b5 (sV ((zar S V n).s) p22.1 p22.2) 118,Row p19.1 5 p19.2 122 zba (zaN S V n).s.opens,Row p22.1 1 p22.2 3 Go.Stn.encI (zar S V n).s.heights,Box b8 (sV ((zar S V n).s) p22.1 p22.2) 118,Box b7 (wV ((zaN S V n).s) p19.1 p19.2) 116,Box b2 [.slice a S.length cap,.slice b V.length bcap] 37]) ⟨rfl,rfl,rfl,trivial⟩ rfl (zao 3 rfl (zao 3 rfl (zbT 2 (zaw (zbd ((p19.1,p19.2),(p22.1,p22.2)) 0 (zdh rfl (zbU (i:=1) (vs:=[_,_,_,_]) zyz rfl rfl rfl rfl) (zbU (i:=2) (vs:=(sV ((zar S V n).s) p22.1 p22.2)) zyq rfl rfl rfl rfl) (zau rfl)) ?_ rfl)))))))
 rfl
theorem zjv {S:List ShC} {V:List WlC} (h:zoN S V):(∀ z∈S,zaP z.s.heights.length)∧(∀ z∈V,zaP z.s.opens.length)∧zaP V.length∧S.length≤1000000∧V.length≤1000000:=
 ⟨fun z hz=>by have:=(h.sh z hz).1; unfold zaP; omega,fun z hz=>by have:=h.wl z hz; unfold zaP; omega,by have:=h.lv; unfold zaP; omega,by have:=h.ls; omega,by have:=h.lv; omega⟩
structure X2 (S:List ShC) (V:List WlC) (S2:List ShC) (V2:List WlC):Prop where
 ls:S2.length=S.length
 lv:V2.length=V.length
 s1:zaP S2.length
 s2:zaP V2.length
 s3:∀ z∈S2,zaP z.s.heights.length
 s4:∀ z∈V2,zaP z.s.opens.length
 kn:∀ z∈V2,∀ o∈z.s.opens,Knd o
theorem zxG {S:List ShC} {V:List WlC} {S2:List ShC} {V2:List WlC} (hsm:zoN S V) (hkn:∀ z∈V,∀ o∈z.s.opens,Knd o) (h:S2.map (·.s)=S.map (·.s)) (h2:V2.map (·.s)=V.map (·.s)):X2 S V S2 V2:=by
 obtain⟨a1,a2,a3,_,_⟩:=zjv hsm
 have l1:=zj7 h; have l2:=zj7 h2
 exact⟨l1,l2,by rw [l1]; have:=hsm.ls; unfold zaP; omega,by rw [l2]; exact a3,zml (Q:=fun s:Sht=>zaP s.heights.length) h a1,zml (Q:=fun v:Wll=>zaP v.opens.length) h2 a2,zml (Q:=fun v:Wll=>∀ o∈v.opens,Knd o) h2 hkn⟩
end Go.Proofs.YteepmmghanbllaaGreatDoor
namespace Go.Fld
open Go Go.K Go.Stn Go.Pln
def hasS (l:List ByteArray) (s:ByteArray):Bool:=l.any fun z=>s.toList == z.toList
def zy0 (cs:List ByteArray) (i:Nat):Bool:=zgx (cs.getD i default)&&!hasS (cs.take i) (cs.getD i default)
def zBj (cs:List ByteArray):Bool:=allI cs.length (zy0 cs)
def zC8 (n:Int):Bool:=!inZ n 0 10000
def zBE (x:Anm):Bool:=!([x.wide,x.high,x.step,x.leap,x.reach].any zC8)
def zzp (S:List ShC) (V:List WlC) (n:Nat) (b:Bdr):Bool:=
 decide (zb6 S V b.wall=0)&&inZ b.a 0 ((n:Int) - 1)&&inZ b.b 0 ((n:Int) - 1)&&!decide (b.a=b.b)&&inZ b.gA (-3000) 3000&&inZ b.gB (-3000) 3000
def zy1 (S:List ShC) (V:List WlC) (cs:List ByteArray) (bs:List Bdr) (x:Anm):Bool:=
 zc4 S V&&inZ (cs.length:Int) 1 40&&!decide (80 < (bs.length:Int))&&zBE x
def zym (S:List ShC) (V:List WlC) (cs:List ByteArray) (bs:List Bdr) (x:Anm):Bool:=
 zy1 S V cs bs x&&zBj cs&&allI bs.length fun i=>zzp S V cs.length (bs.getD i default)
def wayB (S:List ShC) (V:List WlC) (x:Anm) (i:Int) (b:Bdr):Crg×Crg:=
 let v:=(zaN S V b.wall).s
 let s:=(zar S V b.wall).s
 (⟨b.a,b.b,i,(zzX s b.shut b.gA b.gB v.opens x).1,(zzX s b.shut b.gA b.gB v.opens x).2⟩,⟨b.b,b.a,i,(zzX s b.shut b.gB b.gA v.opens x).1,(zzX s b.shut b.gB b.gA v.opens x).2⟩)
def zyj (S:List ShC) (V:List WlC) (bs:List Bdr) (x:Anm):List (Crg×Crg):=(List.range bs.length).map fun(i:Nat)=>wayB S V x i (bs.getD i default)
def zBN (S:List ShC) (V:List WlC) (x:Anm) (b:Bdr) (o:Opn):Bool×Bool:=
 let s:=(zar S V b.wall).s
 ((byG s b.shut b.gA b.gB o x).2,(byG s b.shut b.gB b.gA o x).2)
def zyu (S:List ShC) (V:List WlC) (x:Anm) (b:Bdr):List (Bool×Bool):=(zaN S V b.wall).s.opens.map (zBN S V x b)
def zzS (S:List ShC) (V:List WlC) (bs:List Bdr) (x:Anm):List (List (Bool×Bool)):=(List.range bs.length).map fun(i:Nat)=>zyu S V x (bs.getD i default)
def frN (f:Nat→Bool×Bool) (n:Nat):List (Int×Value):=(List.range n).map fun(i:Nat)=>((i:Int),.agg #[.bool (f i).1,.bool (f i).2])
def frZ (l:List (Bool×Bool)):List (Int×Value):=frN (fun i=>l.getD i (false,false)) l.length
theorem zCq (f:Nat→Bool×Bool) {n i:Nat}:zget (frN f n) i=if i < n then some (.agg #[.bool (f i).1,.bool (f i).2]) else none:=by
 have key:∀ (m k:Nat),zget ((List.range' k m).map fun i=>(((i:Nat):Int),(Value.agg #[.bool (f i).1,.bool (f i).2]))) i=if k≤i∧i < k+m then some (.agg #[.bool (f i).1,.bool (f i).2]) else none:=by
  intro m
  induction m with
  | zero=>intro k; rw [if_neg (by omega)]; rfl
  | succ m ih=>
   intro k
   rw [List.range'_succ,List.map_cons,zget]
   by_cases h:i=k
   ·subst h
    rw [if_pos rfl,if_pos (by omega)]
   ·rw [if_neg (by omega),ih]
    by_cases h2:k+1≤i∧i < k+1+m
    ·rw [if_pos h2,if_pos (by omega)]
    ·rw [if_neg h2,if_neg (by omega)]
 have:=key n 0
 rw [←List.range_eq_range'] at this
 rw [frN,this]
 by_cases h:i < n
 ·rw [if_pos h,if_pos (by omega)]
 ·rw [if_neg h,if_neg (by omega)]
def upd (f:Nat→Bool×Bool) (i:Nat) (v:Bool×Bool):Nat→Bool×Bool:=fun k=>if k=i then v else f k
theorem zDW (f:Nat→Bool×Bool) (v:Bool×Bool) {n i:Nat} (h:i≤n):zput (frN f n) i (.agg #[.bool v.1,.bool v.2])=frN (upd f i v) (max n (i+1)):=by
 have key:∀ (m k:Nat),k≤i→i≤k+m→zput ((List.range' k m).map fun i=>(((i:Nat):Int),(Value.agg #[.bool (f i).1,.bool (f i).2]))) i (.agg #[.bool v.1,.bool v.2]) =
   (List.range' k (max m (i+1 - k))).map fun j=>(((j:Nat):Int),(Value.agg #[.bool (upd f i v j).1,.bool (upd f i v j).2])):=by
  intro m
  induction m with
  | zero=>
   intro k h1 h2
   have:i=k:=by omega
   subst this
   rw [show max 0 (i+1 - i)=1 from by omega]
   simp [zput,upd]
  | succ m ih=>
   intro k h1 h2
   rw [List.range'_succ,List.map_cons,zput]
   by_cases h:i=k
   ·subst h
    rw [if_pos rfl,show max (m+1) (i+1 - i)=m+1 from by omega,List.range'_succ,List.map_cons]
    refine congr (congrArg _ (by simp [upd])) (List.map_congr_left fun j hj=>?_)
    rw [List.mem_range'_1] at hj
    rw [upd,if_neg (by omega)]
   ·rw [if_neg (by omega),ih (k+1) (by omega) (by omega),show max (m+1) (i+1 - k)=max m (i+1 - (k+1))+1 from by omega,List.range'_succ,List.map_cons]
    refine congr (congrArg _ ?_) rfl
    rw [upd,if_neg (by omega)]
 have:=key n 0 (by omega) (by omega)
 rw [←List.range_eq_range',Nat.sub_zero,←List.range_eq_range'] at this
 exact this
theorem zz2 {f g:Nat→Bool×Bool} {n:Nat} (h:∀ i,i < n→f i=g i):frN f n=frN g n:=
 List.map_congr_left fun i hi=>by rw [h i (List.mem_range.1 hi)]
end Go.Fld
namespace Go.K
open Go Go.RowKit
def zDo (P:Prop) (R:Res):Res where
 A B w:=P∧R.A B w
 loc B w w' h hA:=⟨hA.1,R.loc B w w' h hA.2⟩
section
variable {c:Cx} {ds:List Deferred} {T:List (Nat×Value)} {H:List Res} {K:Act→World→Prop} {P:Prop} {R:Res}
theorem zz4 (h:P→GK c ds K T (R :: H)):GK c ds K T (zDo P R :: H):=fun a w ha hw=>by
 obtain⟨hb,B,hB,⟨hp,hA⟩,hr⟩:=hw
 exact h hp a w ha ⟨hb,B,hB,hA,hr⟩
theorem zBO (hp:P) (h:GK c ds K T (zDo P R :: H)):GK c ds K T (R :: H):=fun a w ha hw=>by
 obtain⟨hb,B,hB,hA,hr⟩:=hw
 exact h a w ha ⟨hb,B,hB,⟨hp,hA⟩,hr⟩
theorem zyS (h:GK c ds K T (Emp :: H)):GK c ds K T H:=fun a w ha hw=>
 h a w ha ⟨hw.base,fun _=>False,fun _ hk=>hk.elim,trivial,Holds.anti H (fun _ hk=>hk.elim id False.elim) hw.holds⟩
end
section
variable {c:Cx} {ds:List Deferred} {T:List (Nat×Value)} {H:List Res} {d:Option Nat} {ty:TypeId} {ps:String} {af:Array Edge} {g:Option (Nat×Bool)} {x y:Operand} {u v:Value}
theorem zzF {t:TypeId} {vs:List Value} (hx:evo T x=some (.agg vs.toArray)) (hy:evo T y=some u) (hr:∀ w,(Instr.index t (.agg vs.toArray) u).run c.P w=.ok v w):Y c ds H T ⟨d,.index t x y,ty,ps,af,g⟩ v:=
 zcz fun a w ha _=>by
  simp only [execOp,ha.eval hx,ha.eval hy]
  exact zbu (hr w)
theorem zzw {t e:TypeId} {n k o:Nat} {a0:Option Addr} {kd:IntKind} {i:Int} (m:Nat) (ht:AE c.P t e n k) (hx:evo T x=some (epx a0 o)) (hy:evo T y=some (.int kd i)) (hm:i=(m:Int)) (h1:m < n) (ha0:∀ w,Hp c.U c.w0 H w→∃ b off,a0=some ⟨b,off,none⟩) :
  Y c ds H T ⟨d,.indexAddr t x y,ty,ps,af,g⟩ (epx a0 (o+m*k)):=by
 refine⟨fun a w ha hw=>?_⟩
 obtain⟨b,off,rfl⟩:=ha0 w hw
 have hx':evo T x=some (.pointer (some ⟨b,off+o,none⟩)):=by rw [hx]; simp [epx,zb2]
 have h:=(zyA (c:=c) (ds:=ds) (H:=H) (d:=d) (ty:=ty) (ps:=ps) (af:=af) (g:=g) m ht hx' hy hm h1).run a w ha hw
 rw [show epx (some ⟨b,off,none⟩) (o+m*k)=.pointer (some ⟨b,off+o+m*k,none⟩) from by simp [epx,zb2,Nat.add_assoc]]
 exact h
theorem zzG {α:Type} [Inhabited α] {t:TypeId} {k k' f:Nat} {z:Value} {a0:Option Addr} {i:Int} {enc:α→List Value} {l:List α} {vs:List Value} (ht:TF c.P t true k' z) (hx:evo T x=some (epx a0 (i.toNat*k+f)))
  (hh:∀ w,Hp c.U c.w0 H w→Has w (zaW a0 k enc l)) (h0:0≤i) (h1:i < (l.length:Int)) (hv:((enc (l.getD i.toNat default)).drop f).take k' = vs) (hl:vs.length=k':=by rfl):Y c ds H T ⟨d,.load t x,ty,ps,af,g⟩ (.agg vs.toArray):=
 zcz fun a w ha hw=>by
  obtain⟨b,off,hab,hc⟩:=zdG (hh w hw) (zeF h0 h1)
  subst hab
  simp only [execOp,ha.eval hx,epx,Option.map_some,zb2]
  refine zbu ?_
  unfold Instr.loadAt
  rw [zal (v:=⟨b,off+(i.toNat*k+f),none⟩) (w':=w) rfl]
  refine zd0 ht hl (zfA _ _ fun j v hj=>?_)
  rw [←hv] at hj
  have hj2:(enc (l.getD i.toNat default))[f+j]?=some v:=by
   rw [List.getElem?_take] at hj
   split at hj
   ·rwa [List.getElem?_drop] at hj
   ·cases hj
  have:=zdQ _ _ (f+j) v hc hj2
  rwa [show off+(i.toNat*k+f)+j=off+i.toNat*k+(f+j) from by omega]
theorem zyY {o:Oper} (h:Y c ds H T o u) (e:u=v):Y c ds H T o v:=e ▸ h
end
end Go.K
namespace Go.Fld
open Go Go.K Go.Stn Go.Pln
abbrev zy6 (b:Nat):List Value:=[.map (some b)]
theorem zzY:Enc 1 zy6:=⟨fun _=>rfl,fun _=>rfl,by decide⟩
abbrev rowM (z:Nat×List (Bool×Bool)):Res:=MapZ z.1 (frZ z.2)
def prK (c:Crg×Crg) (k:Int):Crg×Crg:=if k≤0 then(default,default) else if k≤1 then(c.1,default) else c
def frK (l:List (Bool×Bool)) (k:Int):List (Int×Value):=if k≤0 then [] else if k≤1 then frN (fun i=>((l.getD i (false,false)).1,false)) l.length else frZ l
def frA (l:List (Bool×Bool)) (n:Nat):List (Int×Value):=frN (fun i=>((l.getD i (false,false)).1,false)) n
def frB2 (l:List (Bool×Bool)) (n:Nat):List (Int×Value):=frN (fun i=>((l.getD i (false,false)).1,if i < n then(l.getD i (false,false)).2 else false)) l.length
theorem zGd {l:List (Bool×Bool)} {n:Nat}:(zget (frA l n) n).getD (.agg #[.bool false,.bool false])=.agg #[.bool false,.bool false]:=by
 unfold frA
 rw [zCq,if_neg (by omega)]; rfl
theorem zGe {l:List (Bool×Bool)} {n:Nat} {v:Bool} (hv:v=(l.getD n (false,false)).1):zput (frA l n) n (.agg #[.bool v,.bool false])=frA l (n+1):=by
 unfold frA
 rw [show(Value.agg #[.bool v,.bool false])=.agg #[.bool (v,false).1,.bool (v,false).2] from rfl,zDW _ _ (Nat.le_refl n),Nat.max_eq_right (by omega)]
 refine zz2 fun i hi=>?_
 unfold upd
 by_cases h:i=n
 ·rw [if_pos h,h,hv]
 ·rw [if_neg h]
theorem zGg {l:List (Bool×Bool)} {n:Nat} (h:n < l.length):(zget (frB2 l n) n).getD (.agg #[.bool false,.bool false])=.agg #[.bool (l.getD n (false,false)).1,.bool false]:=by
 unfold frB2
 rw [zCq,if_pos h,if_neg (by omega)]; rfl
theorem zGh {l:List (Bool×Bool)} {n:Nat} (h:n < l.length) {u v:Bool} (hu:u=(l.getD n (false,false)).1) (hv:v=(l.getD n (false,false)).2):zput (frB2 l n) n (.agg #[.bool u,.bool v])=frB2 l (n+1):=by
 unfold frB2
 rw [show(Value.agg #[.bool u,.bool v])=.agg #[.bool (u,v).1,.bool (u,v).2] from rfl,zDW _ _ (Nat.le_of_lt h),Nat.max_eq_left (by omega)]
 refine zz2 fun i hi=>?_
 unfold upd
 by_cases h1:i=n
 ·rw [if_pos h1,h1,if_pos (by omega),hu,hv]
 ·rw [if_neg h1]
  show((l.getD i (false,false)).1,if i < n then(l.getD i (false,false)).2 else false)=_
  by_cases h2:i < n
  ·rw [if_pos h2,if_pos (by omega)]
  ·rw [if_neg h2,if_neg (by omega)]
theorem zHJ {l:List (Bool×Bool)}:frA l 0=[]:=rfl
theorem zGc {l:List (Bool×Bool)}:frA l l.length=frK l 1:=by unfold frK; rw [if_neg (by decide),if_pos (by decide)]; rfl
theorem zHK {l:List (Bool×Bool)}:frB2 l 0=frK l 1:=by
 unfold frK frB2
 rw [if_neg (by decide),if_pos (by decide)]
 exact zz2 fun i _=>by rw [if_neg (by omega)]
theorem zGf {l:List (Bool×Bool)}:frB2 l l.length=frK l 2:=by
 unfold frK frB2 frZ
 rw [if_neg (by decide),if_neg (by decide)]
 exact zz2 fun i hi=>by rw [if_pos hi]
theorem zHL {l:List (Bool×Bool)}:frK l 2=frZ l:=by unfold frK; rw [if_neg (by decide),if_neg (by decide)]
theorem zHU {c:Crg×Crg}:prK c 0=(default,default):=rfl
theorem zHk {c:Crg×Crg}:prK c 1=(c.1,default):=by unfold prK; rw [if_neg (by decide),if_pos (by decide)]
theorem zHl {c:Crg×Crg}:prK c 2=c:=by unfold prK; rw [if_neg (by decide),if_neg (by decide)]
section
variable {S:List ShC} {V:List WlC} {cs:List ByteArray} {bs:List Bdr} {x:Anm}
theorem zzd (h:zy1 S V cs bs x=false):zym S V cs bs x=false:=by unfold zym; rw [h]; rfl
theorem zAf {i:Nat} (hi:i < cs.length) (h:zy0 cs i=false):zym S V cs bs x=false:=by
 unfold zym zBj
 rw [zc9 (by omega) h]; simp
theorem zCT {i:Nat} (hi:i < bs.length) (h:zzp S V cs.length (bs.getD i default)=false):zym S V cs bs x=false:=by
 unfold zym
 rw [zc9 (p:=fun i=>zzp S V cs.length (bs.getD i default)) (by omega) h]; simp
theorem zCU (h1:zy1 S V cs bs x=true) (h2:∀ j:Nat,j < cs.length→zy0 cs j=true) (h3:∀ j:Nat,j < bs.length→zzp S V cs.length (bs.getD j default)=true):zym S V cs bs x=true:=by
 unfold zym zBj
 rw [h1,zdf.2 h2,zdf.2 h3]; rfl
theorem zzq {n:Nat} {b:Bdr} (h:zzp S V n b=true):zb6 S V b.wall=0∧(0≤b.a∧b.a≤(n:Int) - 1)∧(0≤b.b∧b.b≤(n:Int) - 1)∧b.a≠b.b∧(-3000≤b.gA∧b.gA≤3000)∧-3000≤b.gB∧b.gB≤3000:=by
 unfold zzp inZ at h
 simp only [aT,dT,nT,dF] at h
 obtain⟨⟨⟨⟨⟨h1,h2⟩,h3⟩,h4⟩,h5⟩,h6⟩:=h
 exact⟨h1,h2,h3,h4,h5,h6⟩
theorem zBh {n:Nat} {b:Bdr} (h:zzp S V n b=true):Gnd (zar S V b.wall).s (zaN S V b.wall).s b.gA b.gB∧Gnd (zar S V b.wall).s (zaN S V b.wall).s b.gB b.gA:=by
 obtain⟨h1,_,_,_,h5,h6⟩:=zzq h
 obtain⟨_,_,hsp,hWF⟩:=zfu h1
 exact⟨⟨hsp,hWF,h5,h6⟩,⟨hsp,hWF,h6,h5⟩⟩
theorem zzD (h:zym S V cs bs x=true):zc4 S V=true∧(1≤cs.length∧cs.length≤40)∧bs.length≤80∧zBE x=true∧(∀ j:Nat,j < cs.length→zy0 cs j=true)∧∀ j:Nat,j < bs.length→zzp S V cs.length (bs.getD j default)=true:=by
 unfold zym zy1 zBj inZ at h
 simp only [aT,dT,nT,dF,zdf] at h
 obtain⟨⟨⟨⟨⟨h1,h2⟩,h3⟩,h4⟩,h5⟩,h6⟩:=h
 exact⟨h1,by omega,by omega,h4,h5,h6⟩
end
end Go.Fld
namespace Go.Proofs.YteepmmghanbllaaGreatDoor
open Go.K Go.Stn Go.Pln Go.Fld Go.RowKit
theorem tf4:TF Tryz.prog 4 false 1 (.bool false):=tK
theorem tf41:TF Tryz.prog 41 true 5 (.agg #[.int .i64 0,.int .i64 0,.int .i64 0,.int .i64 0,.int .i64 0]):=tK
theorem zAl:TF Tryz.prog 179 true 27 (.agg #[.string ⟨#[]⟩,.string ⟨#[]⟩,.int .i64 0,.slice none 0 0,.string ⟨#[]⟩,.int .i64 0,.int .i64 0,.int .i64 0,.int .i64 0,.slice none 0 0,.int .i64 0,.int .i64 0,.int .i64 0,.int .i64 0,.int .i64 0,.int .i64 0,.int .i64 0,.int .u8 0,.int .i64 0,.int .i64 0,.int .i64 0,.int .i64 0,.int .i64 0,.int .i64 0,.bool false,.int .i64 0,.int .i64 0]):=tK
theorem znb:FO Tryz.prog 41 0 0:=fK
theorem znc:FO Tryz.prog 41 1 1:=fK
theorem zpv:FO Tryz.prog 41 2 2:=fK
theorem zep:FO Tryz.prog 41 3 3:=fK
theorem znd:FO Tryz.prog 41 4 4:=fK
theorem zF5:FO Tryz.prog 179 0 0:=fK
theorem zBw:FO Tryz.prog 179 1 4:=fK
theorem zF6:FO Tryz.prog 179 2 24:=fK
theorem zCp:FO Tryz.prog 179 3 25:=fK
theorem zF7:FO Tryz.prog 179 4 26:=fK
theorem en79:En Tryz.prog 79:=eK Tryz.func79
theorem en91:En Tryz.prog 91:=eK Tryz.func91
theorem en92:En Tryz.prog 92:=eK Tryz.func92
theorem zHz:En Tryz.prog 107:=eK Tryz.func107
theorem zw3:En Tryz.prog 110:=eK Tryz.func110
theorem ztG:En Tryz.prog 113:=eK Tryz.func113
theorem zyR (n lo hi:Int) (w:World)  :
  Calls Tryz.prog 58 #[.int .i64 n,.int .i64 lo,.int .i64 hi] w (Pure (.bool (inZ n lo hi)) w):=by
 refine zan (vs:=[_,_,_]) Tryz.func58 rfl rfl (bL rfl) (gS (gA rfl (gN [0,1,2,6] rfl (zac (gZ 9 (ph_y (zaf rfl) (ph_y (zaf rfl) (ph_y (zfx rfl rfl) (ph_y (zaf rfl) (zaH rfl rfl (fun jj=>by(try rw [jj]); exact zaf rfl) (zaH rfl rfl (fun jj=>by(try rw [jj]); exact zaf rfl) (zaH rfl rfl (fun jj=>by(try rw [jj]); exact zeT rfl rfl) (ph_y (zaX rfl rfl rfl) (ph_y (zad rfl) (gN [6] rfl (zaw (zay (zaC rfl (zau rfl)) ?_)))))))))))))))))
 rfl
theorem zHe (r:Int) (w:World)  :
  Calls Tryz.prog 107 #[.int .i32 r] w (Pure (.bool (oddR r)) w):=by
 refine zan (vs:=[_]) Tryz.func107 rfl rfl (bL rfl) (gS (gA rfl (gN [0,2] rfl (zac (gZ 17 (ph_y (zaf rfl) (ph_y (zfx rfl rfl) (ph_y (zaf rfl) (zaH rfl rfl (fun jj=>by(try rw [jj]); exact zaf rfl) (zaH rfl rfl (fun jj=>by(try rw [jj]); exact zeT rfl rfl) (ph_y (zaX rfl rfl rfl) (ph_y (zbR rfl) (ph_y (zaf rfl) (zaH rfl rfl (fun jj=>by(try rw [jj]); exact zaf rfl) (zaH rfl rfl (fun jj=>by(try rw [jj]); exact zfx rfl rfl) (zaH rfl rfl (fun jj=>by(try rw [jj]); exact zaf rfl) (zdr rfl rfl (fun jj=>by(try rw [jj]); exact zaf rfl) (zdr rfl rfl (fun jj=>by(try rw [jj]); exact zeT rfl rfl) (zaH rfl rfl (fun jj=>by(try rw [jj]); exact zaX rfl rfl rfl) (zaH rfl rfl (fun jj=>by(try rw [jj]); exact zbR rfl) (ph_y (zaX rfl rfl rfl) (ph_y (zad rfl) (gN [2] rfl (zaw (zay (zaC rfl (zau rfl)) ?_)))))))))))))))))))))))))
 rfl
theorem zEN (s:ByteArray) (w:World)  :
  Calls Tryz.prog 76 #[.string s] w (Pure (.bool (zgx s)) w):=by
 refine zan (vs:=[_]) Tryz.func76 rfl rfl (bL rfl) (gS (gA rfl (gN [0,2] rfl (gS (gA rfl (gN [0,2,3] rfl (zac (gZ 14 (ph_y (zaf rfl) (ph_y (ziV rfl rfl) (ph_y (zaf rfl) (zaH rfl rfl (fun jj=>by(try rw [jj]); exact zaf rfl) (zaH rfl rfl (fun jj=>by(try rw [jj]); exact zeO (Tryz.underlying9) rfl) (zaH rfl rfl (fun jj=>by(try rw [jj]); exact zeT rfl rfl) (ph_y (zaX rfl rfl rfl) (ph_y (zaf rfl) (zaH rfl rfl (fun jj=>by(try rw [jj]); exact zaf rfl) (zaH rfl rfl (fun jj=>by(try rw [jj]); exact zaf rfl) (zaH rfl rfl (fun jj=>by(try rw [jj]); exact zaJ (v:=.bool (decide (0≤zcj oddR s 0))) zF1 rfl (fun w hw=>ziD s oddR _ [] w (fun _=>True) (fun _ _=>trivial) zHz (fun r w _=>zHe r w))) (zaH rfl rfl (fun jj=>by(try rw [jj]); exact zbR rfl) (ph_y (zaX rfl rfl rfl) (ph_y (zad rfl) (gN [2] rfl (zaw (zay (zaC rfl (zau rfl)) ?_)))))))))))))))))))))))))
 exact congrArg _ (zqb s)
theorem zFw (b:Option Addr) (bcap:Nat) (v:Wll) (a:Option Addr) (cap:Nat) (s:Sht) (shut:Bool) (g h:Int) (w:World) (_hl:Has w (Ints a s.heights)) (_hss:zaP s.heights.length) (_hv:Has w (zaW b 5 zba v.opens)) (hG:Gnd s v g h) :
  Calls Tryz.prog 91 #[.agg #[.string v.name,.string v.sheet,.int .i64 v.length,.slice b v.opens.length bcap,.string s.name,.int .i64 s.base,.int .i64 s.batter,.int .i64 s.height,.int .i64 s.skin,.slice a s.heights.length cap,.int .i64 s.least,.int .i64 s.lap,.int .i64 s.run,.int .i64 s.every,.int .i64 s.at_,.int .i64 s.footing,.int .i64 s.spread,.int .u8 s.cope,.int .i64 s.tall,.int .i64 s.short,.int .i64 s.thick,.int .i64 s.low,.int .i64 s.high,.int .i64 s.rood,.bool shut,.int .i64 g,.int .i64 h]] w (Pure (.int .i64 (zzc s g)) w):=by
 obtain⟨gs1,gs2,gs3,gs4⟩:=hG.nums
 have gg:=hG.g
 have gh:=hG.h
 refine zan (vs:=[_]) Tryz.func91 rfl rfl (bL rfl) (gS (zaG rfl rfl (za3 (vs:=[_,_,_,_,_,_,_,_,_,_,_,_,_,_,_,_,_,_,_,_,_,_,_,_,_,_,_]) rfl rfl) fun b1=>(gA rfl (gN [1,2] rfl (gS (gQ (zab zBw rfl) (gQ (zab zyM rfl) (gQ (zah 0 tf3 rfl rfl rfl) (gQ (zab zBw rfl) (gQ (zab zzh rfl) (gQ (zah 0 tf3 rfl rfl rfl) (gQ (zaY rfl rfl) (gQ (zab zCp rfl) (gQ (zah 0 tf3 rfl rfl rfl) (gQ (zfV rfl rfl) (gA rfl (gN [2] rfl (zaw (zay (zaC rfl (zau rfl)) ?_)))))))))))))))))))
 rfl
theorem zEp (b:Option Addr) (bcap:Nat) (v:Wll) (a:Option Addr) (cap:Nat) (s:Sht) (shut:Bool) (g h z:Int) (w:World) (hl:Has w (Ints a s.heights)) (hss:zaP s.heights.length) (_hv:Has w (zaW b 5 zba v.opens)) (hG:Gnd s v g h) :
  Calls Tryz.prog 92 #[.agg #[.string v.name,.string v.sheet,.int .i64 v.length,.slice b v.opens.length bcap,.string s.name,.int .i64 s.base,.int .i64 s.batter,.int .i64 s.height,.int .i64 s.skin,.slice a s.heights.length cap,.int .i64 s.least,.int .i64 s.lap,.int .i64 s.run,.int .i64 s.every,.int .i64 s.at_,.int .i64 s.footing,.int .i64 s.spread,.int .u8 s.cope,.int .i64 s.tall,.int .i64 s.short,.int .i64 s.thick,.int .i64 s.low,.int .i64 s.high,.int .i64 s.rood,.bool shut,.int .i64 g,.int .i64 h],.int .i64 z] w (Pure (.int .i64 (zy8 s z)) w):=by
 obtain⟨gs1,gs2,gs3,gs4⟩:=hG.nums
 have gg:=hG.g
 have gh:=hG.h
 refine zan (vs:=[_,_]) Tryz.func92 rfl rfl (bL rfl) (gS (zaG rfl rfl (za3 (vs:=[_,_,_,_,_,_,_,_,_,_,_,_,_,_,_,_,_,_,_,_,_,_,_,_,_,_,_]) rfl rfl) fun b2=>(gA rfl (gN [1,2,4] rfl (gS (gQ (zab zBw rfl) (gQ (zat 0 zyq rfl rfl (vs:=[_,_,_,_,_,_,_,_,_,_,_,_,_,_,_,_,_,_,_,_]) rfl rfl) (gM rfl (gQ (zaJ ztG rfl (fun w hw=>ztc _ _ s z w (rH hl hw) hss)) (gM rfl (gQ (zaB rfl rfl) (gQ (zaB rfl rfl) (gA rfl (gA rfl (gN [4,5] rfl (gS (gM rfl (gA rfl (gN [4] rfl (zaw (zay (zaC rfl (zau rfl)) ?_)))))))))))))))))))))
 rfl
theorem by_c (b:Option Addr) (bcap:Nat) (v:Wll) (a:Option Addr) (cap:Nat) (s:Sht) (shut:Bool) (g h:Int) (o:Opn) (x:Anm) (w:World) (hl:Has w (Ints a s.heights)) (hss:zaP s.heights.length) (hv:Has w (zaW b 5 zba v.opens)) (hG:Gnd s v g h) (ho:zn8 v.length s.height o) :
  Calls Tryz.prog 79 #[.agg #[.string v.name,.string v.sheet,.int .i64 v.length,.slice b v.opens.length bcap,.string s.name,.int .i64 s.base,.int .i64 s.batter,.int .i64 s.height,.int .i64 s.skin,.slice a s.heights.length cap,.int .i64 s.least,.int .i64 s.lap,.int .i64 s.run,.int .i64 s.every,.int .i64 s.at_,.int .i64 s.footing,.int .i64 s.spread,.int .u8 s.cope,.int .i64 s.tall,.int .i64 s.short,.int .i64 s.thick,.int .i64 s.low,.int .i64 s.high,.int .i64 s.rood,.bool shut,.int .i64 g,.int .i64 h],.agg #[.int .u8 o.kind,.int .i64 o.at_,.int .i64 o.width,.int .i64 o.frm,.int .i64 o.high],.agg #[.int .i64 x.wide,.int .i64 x.high,.int .i64 x.step,.int .i64 x.leap,.int .i64 x.reach]] w (Pure (.tuple #[.int .i64 (byG s shut g h o x).1,.bool (byG s shut g h o x).2]) w):=by
 obtain⟨gs1,gs2,gs3,gs4⟩:=hG.nums
 have gg:=hG.g
 have gh:=hG.h
 have of_:=ho.f
 have oh_:=ho.h
 refine zan (vs:=[_,_,_]) Tryz.func79 rfl rfl (bL rfl) (gS (zaG rfl rfl (za3 (vs:=[_,_,_,_,_,_,_,_,_,_,_,_,_,_,_,_,_,_,_,_,_,_,_,_,_,_,_]) rfl rfl) fun b3=>(zaG rfl rfl (za3 (vs:=[_,_,_,_,_]) rfl rfl) fun b4=>(zaG rfl rfl (za3 (vs:=[_,_,_,_,_]) rfl rfl) fun b5=>(gA rfl (gA rfl (gN [3,4,5,6,7] rfl (gS (gQ (zab zyW rfl) (gQ (zah 1 tf3 rfl rfl rfl) (gQ (zab zCp rfl) (gQ (zah 2 tf3 rfl rfl rfl) (gQ (zfV rfl rfl) (gA rfl (gN [3,4,5,6,7,8] rfl (zac (gS (gQ (zab znb rfl) (gQ (zah 0 tf3 rfl rfl rfl) (gQ (zab zAc rfl) (gQ (zah 1 tf3 rfl rfl rfl) (gQ (zc6 rfl rfl) (gN [3,4,5,6,7,8,19] rfl (zap rfl (fun hc19=>?_) (fun hc19=>?_)))))))))))))))))))))))))
 ·have hc19:=oT hc19
  have eB:(byG s shut g h o x)=(0,false):=if_pos hc19
  refine gS (gA rfl (gA rfl (gN [3,4,5,6,7,8] rfl (zaw (zay (zc2 rfl (zau rfl) (zau rfl)) ?_)))))
  rw [eB] <;> rfl
 ·have hc19:=oD hc19
  refine zaq (zac (gS (gQ (zab zAI rfl) (gQ (zah 1 tf5 rfl rfl rfl) (gN [3,4,5,6,7,8,21] rfl (zas (gS (gQ (zbL rfl rfl) (gA rfl (gN [3,4,5,6,7,8,21,22] rfl (zap rfl (fun hc22=>?_) (fun hc22=>?_))))))))))))
  ·have hc22:=oT hc22
   have eB:(byG s shut g h o x)=(1,!shut):=(if_neg hc19).trans (if_pos hc22)
   refine zac (gZ 5 (ph_y (zab zF6 rfl) (ph_y (zah 2 tf4 rfl rfl rfl) (ph_y (zbR rfl) (ph_y (zad rfl) (ph_y (zad rfl) (gN [3,4,5,6,7,8] rfl (zaw (zay (zc2 rfl (zau rfl) (zau rfl)) ?_)))))))))
   rw [eB] <;> rfl
  ·have hc22:=oD hc22
   refine gS (gQ (zbL rfl rfl) (gA rfl (gN [3,4,5,6,7,8,27] rfl (zap rfl (fun hc27=>?_) (fun hc27=>?_)))))
   ·have hc27:=oT hc27
    have eB:(byG s shut g h o x)=(max (o.frm - g) 0+1,decide (o.frm - g≤x.leap)&&decide (zy8 s o.frm≤x.reach)):=(if_neg hc19).trans ((if_neg hc22).trans (if_pos hc27))
    refine zac (gZ 18 (ph_y (zaf rfl) (ph_y (zws rfl rfl) (ph_y (zaY rfl rfl) (ph_y (zaf rfl) (ph_y (zab zep rfl) (ph_y (zah 0 tf3 rfl rfl rfl) (ph_y (zeT rfl rfl) (ph_y (zaf rfl) (zaH rfl rfl (fun jj=>by(try rw [jj]); exact zat 2 zAl rfl rfl (vs:=[_,_,_,_,_,_,_,_,_,_,_,_,_,_,_,_,_,_,_,_,_,_,_,_,_,_,_]) rfl rfl) (zaH rfl rfl (fun jj=>by(try rw [jj]); exact zab zyW rfl) (zaH rfl rfl (fun jj=>by(try rw [jj]); exact zah 1 tf3 rfl rfl rfl) (zaH rfl rfl (fun jj=>by(try rw [jj]); exact zaJ (v:=.int .i64 (zy8 s o.frm)) en92 rfl (fun w hw=>zEp _ _ v _ _ s shut g h o.frm w (rH hl hw) hss (rH hv hw) hG)) (zaH rfl rfl (fun jj=>by(try rw [jj]); exact zab znd rfl) (zaH rfl rfl (fun jj=>by(try rw [jj]); exact zah 0 tf3 rfl rfl rfl) (zaH rfl rfl (fun jj=>by(try rw [jj]); exact zeT rfl rfl) (ph_y (zaX rfl rfl rfl) (ph_y (zad rfl) (ph_y (zad rfl) (gN [3,4,5,6,7,8] rfl (zaw (zay (zc2 rfl (zau rfl) (zau rfl)) ?_))))))))))))))))))))))
    rw [eB] <;> rfl
   ·have hc27:=oD hc27
    have eB:(byG s shut g h o x)=(max (o.frm - g) 0+1,decide (o.frm - g≤x.step)&&decide (x.high≤o.frm+o.high - max (max o.frm g) h)):=(if_neg hc19).trans ((if_neg hc22).trans (if_neg hc27))
    refine zaq (gS (gQ (zab zyW rfl) (gQ (zah 1 tf3 rfl rfl rfl) (gQ (zab zzO rfl) (gQ (zah 1 tf3 rfl rfl rfl) (gQ (zaY rfl rfl) (gQ (zab zyW rfl) (gQ (zah 1 tf3 rfl rfl rfl) (gQ (zab zCp rfl) (gQ (zah 2 tf3 rfl rfl rfl) (gQ (zab zF7 rfl) (gQ (zah 2 tf3 rfl rfl rfl) (gQ (zHt rfl rfl rfl) (gQ (zfV rfl rfl) (gA rfl (gN [5,6,7,8,9] rfl (zac (gZ 15 (ph_y (zaf rfl) (ph_y (zws rfl rfl) (ph_y (zaY rfl rfl) (ph_y (zaf rfl) (ph_y (zab zpv rfl) (ph_y (zah 0 tf3 rfl rfl rfl) (ph_y (zeT rfl rfl) (ph_y (zaf rfl) (zaH rfl rfl (fun jj=>by(try rw [jj]); exact zaf rfl) (zaH rfl rfl (fun jj=>by(try rw [jj]); exact zab znc rfl) (zaH rfl rfl (fun jj=>by(try rw [jj]); exact zah 0 tf3 rfl rfl rfl) (zaH rfl rfl (fun jj=>by(try rw [jj]); exact zfx rfl rfl) (ph_y (zaX rfl rfl rfl) (ph_y (zad rfl) (ph_y (zad rfl) (gN [6,7] rfl (zaw (zay (zc2 rfl (zau rfl) (zau rfl)) ?_))))))))))))))))))))))))))))))))))))
    rw [eB] <;> rfl
theorem zFV {r:Int×Int} {n c:Int} (h:(decide (r.1 = -2)||decide (c < r.2))=true):btr r n c=(n,c):=if_pos h
theorem zG8 {r:Int×Int} {n c:Int} (h:(decide (r.1 = -2)||decide (c < r.2))=false):btr r n c=r:=if_neg (by rw [h]; exact fT)
theorem zCE (p q:Nat) (r:Int×Int) (n c:Int) (w:World) (B:Nat→Prop) (hB:∀ k,B k→k < w.heap.size) (hA:(SepR [Box p [.int .i64 r.1] 3,Box q [.int .i64 r.2] 3]).A B w)  :
  Calls Tryz.prog 110 #[.int .i64 n,.int .i64 c,.pointer (some ⟨p,0,none⟩),.pointer (some ⟨q,0,none⟩)] w (zho (fun _:Unit=>.tuple #[]) (fun _=>SepR [Box p [.int .i64 (btr r n c).1] 3,Box q [.int .i64 (btr r n c).2] 3]) (fun _=>True) B w):=by
 refine zby hB hA (vs:=[_,_,_,_]) Tryz.func110 rfl rfl (bL rfl) (zbP (zac (gZ 7 (ph_y (zah 0 tf3 rfl rfl rfl) (ph_y (zbL rfl rfl) (ph_y (zaf rfl) (zaz rfl rfl (fun jj=>by(try rw [jj]); exact zaf rfl) (zaz rfl rfl (fun jj=>by(try rw [jj]); exact zah 1 tf3 rfl rfl rfl) (zaz rfl rfl (fun jj=>by(try rw [jj]); exact zbw rfl rfl) (ph_y (zaR rfl rfl rfl) (gN [0,1,2,3,12] rfl (zap rfl (fun hc12=>?_) (fun hc12=>?_)))))))))))))
 ·
  refine zaa (gM rfl (gM rfl (zaA 0 tf3 rfl rfl (vs:=[_]) rfl rfl rfl rfl rfl (zaA 1 tf3 rfl rfl (vs:=[_]) rfl rfl rfl rfl rfl (zag (zae (T':=[]) trivial (zao 1 rfl (zao 1 rfl (zbT 2 ?_)))))))))
  exact zd9 () 0 (zcN rfl) rfl (by rw [zFV hc12]; rfl) trivial
 ·
  refine zaq (zao 1 rfl (zao 1 rfl (zbT 2 ?_)))
  exact zd9 () 0 (zcN rfl) rfl (by rw [zG8 hc12]; rfl) trivial
theorem zFo (b:Option Addr) (bcap:Nat) (v:Wll) (a:Option Addr) (cap:Nat) (s:Sht) (shut:Bool) (g h:Int) (x:Anm) (w:World) (hl:Has w (Ints a s.heights)) (hss:zaP s.heights.length) (hv:Has w (zaW b 5 zba v.opens)) (hG:Gnd s v g h) :
  Calls Tryz.prog 78 #[.agg #[.string v.name,.string v.sheet,.int .i64 v.length,.slice b v.opens.length bcap,.string s.name,.int .i64 s.base,.int .i64 s.batter,.int .i64 s.height,.int .i64 s.skin,.slice a s.heights.length cap,.int .i64 s.least,.int .i64 s.lap,.int .i64 s.run,.int .i64 s.every,.int .i64 s.at_,.int .i64 s.footing,.int .i64 s.spread,.int .u8 s.cope,.int .i64 s.tall,.int .i64 s.short,.int .i64 s.thick,.int .i64 s.low,.int .i64 s.high,.int .i64 s.rood,.bool shut,.int .i64 g,.int .i64 h],.agg #[.int .i64 x.wide,.int .i64 x.high,.int .i64 x.step,.int .i64 x.leap,.int .i64 x.reach]] w (Pure (.tuple #[.int .i64 (zzX s shut g h v.opens x).1,.int .i64 (zzX s shut g h v.opens x).2]) w):=by
 obtain⟨gs1,gs2,gs3,gs4⟩:=hG.nums
 have gg:=hG.g
 have gh:=hG.h
 have on:=hG.wf.num
 have hov:=zGy hG
 refine zan (vs:=[_,_]) Tryz.func78 rfl rfl (bL rfl) (gS (zaG rfl rfl (za3 (vs:=[_,_,_,_,_,_,_,_,_,_,_,_,_,_,_,_,_,_,_,_,_,_,_,_,_,_,_]) rfl rfl) fun b2=>(zaG rfl rfl (za3 (vs:=[_,_,_,_,_]) rfl rfl) fun b3=>(zaG rfl rfl (zaL tf3 (zs:=[_]) rfl) fun b4=>(zaG rfl rfl (zaL tf3 (zs:=[_]) rfl) fun b5=>(gN [2,3,4,5] rfl (gS (zaA 1 tf3 rfl rfl (vs:=[_]) rfl rfl rfl rfl rfl (gN [2,3,4,5] rfl (gS (gQ (zbO («as»:=[]) (bs:=[_,_]) rfl rfl) (gA rfl (gN [2,3,4,5,6] rfl (zac (gS (gQ (zab zF5 rfl) (gQ (zab zyL rfl) (gQ (zah 3 zAi rfl rfl rfl) (gQ (zaV (Tryz.underlying114) rfl) (gM rfl (gN [2,3,4,5,6,14,15,16] rfl (zas ?_))))))))))))))))))))))
 refine zbf (X:=Int) (fun(i:Int)=>[(2,.pointer (some ⟨b2,0,none⟩)),(3,.pointer (some ⟨b3,0,none⟩)),(4,.pointer (some ⟨b4,0,none⟩)),(5,.pointer (some ⟨b5,0,none⟩)),(6,.func (.func 110) #[] #[.pointer (some ⟨b4,0,none⟩),.pointer (some ⟨b5,0,none⟩)]),(14,.slice b v.opens.length bcap),(15,.int .i64 (v.opens.length:Int)),(16,.int .i64 i)]) (fun(i:Int)=>[Box b5 [.int .i64 ((zyB s shut g h v.opens x i.toNat).2)] 3,Box b4 [.int .i64 ((zyB s shut g h v.opens x i.toNat).1)] 3,Box b3 [.int .i64 x.wide,.int .i64 x.high,.int .i64 x.step,.int .i64 x.leap,.int .i64 x.reach] 41,Box b2 (lV v b bcap s a cap shut g h) 179]) (fun(i:Int)=>(0≤i∧i≤v.opens.length)) (fun(i:Int)=>(v.opens.length - i).toNat) 0 (sB rfl) rfl ?_ ?_
 ·exact⟨by omega,by omega⟩
 ·rintro i hI
  obtain⟨g0,g1⟩:=hI
  refine gS (gQ (zbw rfl rfl) (gN [2,3,4,5,6,14,15,16,17] rfl (zac (zap rfl (fun hc17=>?_) (fun hc17=>?_)))))
  ·simp only [dT] at hc17
   refine zaq (zac (zas (gS (gM rfl (gQ (zaE zCz rfl rfl (fun _=>rH hv)) (gQ (zbv (vs:=[_,_,_,_,_]) zy2 rfl (fun _=>rH hv) (by omega) (by omega) rfl) (zaG rfl rfl (zaL zy2 (zs:=[_,_,_,_,_]) rfl) fun b8=>(gA rfl (zaA 0 zy2 rfl rfl (vs:=[_,_,_,_,_]) rfl rfl rfl rfl rfl (gN [2,3,4,5,6,7,8,14,15,16] rfl (gS (gQ (zat 4 zAl rfl rfl (vs:=[_,_,_,_,_,_,_,_,_,_,_,_,_,_,_,_,_,_,_,_,_,_,_,_,_,_,_]) rfl rfl) (gQ (zat 0 zy2 rfl rfl (vs:=[_,_,_,_,_]) rfl rfl) (gQ (zat 3 tf41 rfl rfl (vs:=[_,_,_,_,_]) rfl rfl) (gQ (zaJ en79 rfl (fun w hw=>by_c _ _ v _ _ s shut g h (v.opens.getD (i).toNat default) x w (rH hl hw) hss (rH hv hw) hG (hG.wf.fit _ (za0 (by omega))))) (gM rfl (gQ (zaB rfl rfl) (gQ (zaB rfl rfl) (gA rfl (gA rfl (gN [2,3,4,5,6,7,9,10,14,15,16] rfl (gS (gM rfl (gN [2,3,4,5,6,7,9,14,15,16,28] rfl (zap rfl (fun hc28=>?_) (fun hc28=>?_))))))))))))))))))))))))))
   ·have hbn:(zyB s shut g h v.opens x (i+1).toNat)=btr (zyB s shut g h v.opens x i.toNat) i (byG s shut g h (v.opens.getD i.toNat default) x).1:=by rw [show(i+1).toNat=i.toNat+1 from by omega,zyB,if_pos hc28,tN g0]
    refine zao 1 rfl (zao 2 rfl (zbT 2 (zaa (gM rfl (gM rfl (gM rfl (zkZ (fs:=[]) (cap:=[_,_]) 0 zw3 rfl rfl rfl rfl (fun w B hF=>zCE _ _ _ _ _ w B (fun k hk=>(hF.own k hk).2) hF.A) fun u32 hq32=>(gN [2,3,4,5,6,14,15,16] rfl (zbP (zao 1 rfl (za2 (R':=Box b4 [.int .i64 ((zyB s shut g h v.opens x (i+1).toNat).1)] 3) 1 rfl (fun B w hA=>by rw [hbn]; exact hA) (za2 (R':=Box b5 [.int .i64 ((zyB s shut g h v.opens x (i+1).toNat).2)] 3) 0 rfl (fun B w hA=>by rw [hbn]; exact hA) (zaa (gQ (zaY rfl rfl) (gM rfl (gN [2,3,4,5,6,14,15,16] rfl (zaK 2 rfl ?_)))))))))))))))))
    exact za1 (i+1) (sB rfl) rfl ⟨by omega,by omega⟩ (by omega)
   ·have hbn:(zyB s shut g h v.opens x (i+1).toNat)=(zyB s shut g h v.opens x i.toNat):=by rw [show(i+1).toNat=i.toNat+1 from by omega,zyB,if_neg (by rw [hc28]; exact fT)]
    refine za2 (R':=Box b4 [.int .i64 ((zyB s shut g h v.opens x (i+1).toNat).1)] 3) 2 rfl (fun B w hA=>by rw [hbn]; exact hA) (za2 (R':=Box b5 [.int .i64 ((zyB s shut g h v.opens x (i+1).toNat).2)] 3) 1 rfl (fun B w hA=>by rw [hbn]; exact hA) (zaq (zaa (gQ (zaY rfl rfl) (gM rfl (gN [2,3,4,5,6,14,15,16] rfl (zaK 0 rfl ?_)))))))
    exact za1 (i+1) (sB rfl) rfl ⟨by omega,by omega⟩ (by omega)
  ·simp only [dF] at hc17
   refine za8 rfl (zac (zac (gZ 15 (ph_y (zat 3 zAl rfl rfl (vs:=[_,_,_,_,_,_,_,_,_,_,_,_,_,_,_,_,_,_,_,_,_,_,_,_,_,_,_]) rfl rfl) (ph_y (zaJ en91 rfl (fun w hw=>zFw _ _ v _ _ s shut g h w (rH hl hw) hss (rH hv hw) hG)) (ph_y (zab zep rfl) (ph_y (zah 2 tf3 rfl rfl rfl) (ph_y (zeT rfl rfl) (ph_y (zaf rfl) (zaH rfl rfl (fun jj=>by(try rw [jj]); exact zat 3 zAl rfl rfl (vs:=[_,_,_,_,_,_,_,_,_,_,_,_,_,_,_,_,_,_,_,_,_,_,_,_,_,_,_]) rfl rfl) (zaH rfl rfl (fun jj=>by(try rw [jj]); exact zab zBw rfl) (zaH rfl rfl (fun jj=>by(try rw [jj]); exact zab zyM rfl) (zaH rfl rfl (fun jj=>by(try rw [jj]); exact zah 3 tf3 rfl rfl rfl) (zaH rfl rfl (fun jj=>by(try rw [jj]); exact zaJ (v:=.int .i64 (zy8 s s.height)) en92 rfl (fun w hw=>zEp _ _ v _ _ s shut g h s.height w (rH hl hw) hss (rH hv hw) hG)) (zaH rfl rfl (fun jj=>by(try rw [jj]); exact zab znd rfl) (zaH rfl rfl (fun jj=>by(try rw [jj]); exact zah 2 tf3 rfl rfl rfl) (zaH rfl rfl (fun jj=>by(try rw [jj]); exact zeT rfl rfl) (ph_y (zaX rfl rfl rfl) (gN [2,4,5,6,48] rfl (zap rfl (fun hc48=>?_) (fun hc48=>?_)))))))))))))))))))))
   ·have hbg:(zzX s shut g h v.opens x)=btr (zyB s shut g h v.opens x v.opens.length) (-1) (max (zzc s g) 0+1):=if_pos hc48
    refine zao 1 rfl (zbT 2 (zaa (gM rfl (gQ (zat 2 zAl rfl rfl (vs:=[_,_,_,_,_,_,_,_,_,_,_,_,_,_,_,_,_,_,_,_,_,_,_,_,_,_,_]) rfl rfl) (gQ (zaJ en91 rfl (fun w hw=>zFw _ _ v _ _ s shut g h w (rH hl hw) hss (rH hv hw) hG)) (gQ (zws rfl rfl) (gQ (zaY rfl rfl) (zkZ (fs:=[]) (cap:=[_,_]) 0 zw3 rfl rfl rfl rfl (fun w B hF=>zCE _ _ _ _ _ w B (fun k hk=>(hF.own k hk).2) hF.A) fun u54 hq54=>(gN [4,5] rfl (zbP (zao 1 rfl (zac (zao 1 rfl (zCs [_,_] (ch []) 1000 4 [0,0,1,7] [(0,1000),(1,1001)] rfl (fun _=>mixed) (by kernel_rfl) (zjK _ trivial) (zBb (R:=fun ρ=>Box b4 [.int .i64 ((btr (zyB s shut g h v.opens x i.toNat) (-1) ((max (zzc s g) 0)+1)).1)] 3) 1000 rfl rfl (by kernel_rfl) (fun _=>by kernel_rfl) (fun ρ=>zah 0 tf3 rfl rfl rfl) (fun ρ ρ' h=>by rfl) (zBb (R:=fun ρ=>Box b5 [.int .i64 ((btr (zyB s shut g h v.opens x i.toNat) (-1) ((max (zzc s g) 0)+1)).2)] 3) 1001 rfl rfl (by kernel_rfl) (fun _=>by kernel_rfl) (fun ρ=>zah 0 tf3 rfl rfl rfl) (fun ρ ρ' h=>by rfl) ?_))))))))))))))))
    refine zBT (R:=fun ρ=>Box b4 [.int .i64 ((btr (zyB s shut g h v.opens x i.toNat) (-1) ((max (zzc s g) 0)+1)).1)] 3) (A:=fun ρ=>Box b4 [.int .i64 ((btr (zyB s shut g h v.opens x i.toNat) (-1) ((max (zzc s g) 0)+1)).1)] 3) 1000 rfl (by kernel_rfl) (by kernel_rfl) (fun _=>by kernel_rfl) (fun ρ=>zex tf3 rfl rfl (vs:=[_]) rfl rfl rfl rfl rfl) (fun ρ ρ' h=>by rfl) (zBT (R:=fun ρ=>Box b5 [.int .i64 ((btr (zyB s shut g h v.opens x i.toNat) (-1) ((max (zzc s g) 0)+1)).2)] 3) (A:=fun ρ=>Box b5 [.int .i64 ((btr (zyB s shut g h v.opens x i.toNat) (-1) ((max (zzc s g) 0)+1)).2)] 3) 1001 rfl (by kernel_rfl) (by kernel_rfl) (fun _=>by kernel_rfl) (fun ρ=>zex tf3 rfl rfl (vs:=[_]) rfl rfl rfl rfl rfl) (fun ρ ρ' h=>by rfl) (fun ρ=>zag (zpT (T':=[(4,.pointer (some ⟨b4,0,none⟩)),(5,.pointer (some ⟨b5,0,none⟩))]) (H':=[Box b4 [.int .i64 ((btr (zyB s shut g h v.opens x i.toNat) (-1) ((max (zzc s g) 0)+1)).1)] 3,Box b5 [.int .i64 ((btr (zyB s shut g h v.opens x i.toNat) (-1) ((max (zzc s g) 0)+1)).2)] 3,Box b3 [.int .i64 x.wide,.int .i64 x.high,.int .i64 x.step,.int .i64 x.leap,.int .i64 x.reach] 41,Box b2 (lV v b bcap s a cap shut g h) 179]) ⟨rfl,rfl,trivial⟩ rfl (zaw (zay (zc2 rfl (zcy (i:=0) tf3 rfl rfl rfl) (zcy (i:=1) tf3 rfl rfl rfl)) ?_)))))
    rw [hbg,show v.opens.length=i.toNat from by omega]
   ·have hbg:(zzX s shut g h v.opens x)=(zyB s shut g h v.opens x v.opens.length):=if_neg (by rw [show hopG s g x=_ from hc48]; exact fT)
    refine zaq (zac (zao 1 rfl (zCs [_,_] (ch []) 1000 4 [0,0,1,7] [(0,1000),(1,1001)] rfl (fun _=>mixed) (by kernel_rfl) (zjK _ trivial) (zBb (R:=fun ρ=>Box b4 [.int .i64 ((zyB s shut g h v.opens x i.toNat).1)] 3) 1000 rfl rfl (by kernel_rfl) (fun _=>by kernel_rfl) (fun ρ=>zah 0 tf3 rfl rfl rfl) (fun ρ ρ' h=>by rfl) (zBb (R:=fun ρ=>Box b5 [.int .i64 ((zyB s shut g h v.opens x i.toNat).2)] 3) 1001 rfl rfl (by kernel_rfl) (fun _=>by kernel_rfl) (fun ρ=>zah 0 tf3 rfl rfl rfl) (fun ρ ρ' h=>by rfl) (zBT (R:=fun ρ=>Box b4 [.int .i64 ((zyB s shut g h v.opens x i.toNat).1)] 3) (A:=fun ρ=>Box b4 [.int .i64 ((zyB s shut g h v.opens x i.toNat).1)] 3) 1000 rfl (by kernel_rfl) (by kernel_rfl) (fun _=>by kernel_rfl) (fun ρ=>zex tf3 rfl rfl (vs:=[_]) rfl rfl rfl rfl rfl) (fun ρ ρ' h=>by rfl) (zBT (R:=fun ρ=>Box b5 [.int .i64 ((zyB s shut g h v.opens x i.toNat).2)] 3) (A:=fun ρ=>Box b5 [.int .i64 ((zyB s shut g h v.opens x i.toNat).2)] 3) 1001 rfl (by kernel_rfl) (by kernel_rfl) (fun _=>by kernel_rfl) (fun ρ=>zex tf3 rfl rfl (vs:=[_]) rfl rfl rfl rfl rfl) (fun ρ ρ' h=>by rfl) ?_)))))))
    refine fun ρ=>zag (zpT (T':=[(4,.pointer (some ⟨b4,0,none⟩)),(5,.pointer (some ⟨b5,0,none⟩))]) (H':=[Box b4 [.int .i64 ((zyB s shut g h v.opens x i.toNat).1)] 3,Box b5 [.int .i64 ((zyB s shut g h v.opens x i.toNat).2)] 3,Box b3 [.int .i64 x.wide,.int .i64 x.high,.int .i64 x.step,.int .i64 x.leap,.int .i64 x.reach] 41,Box b2 (lV v b bcap s a cap shut g h) 179]) ⟨rfl,rfl,trivial⟩ rfl (zaw (zay (zc2 rfl (zcy (i:=0) tf3 rfl rfl rfl) (zcy (i:=1) tf3 rfl rfl rfl)) ?_)))
    rw [hbg,show v.opens.length=i.toNat from by omega]
theorem en58:En Tryz.prog 58:=eK Tryz.func58
theorem zDg {α:Type} {l:List α} {n:Nat} (h:zaP l.length):zaP (l.take n).length:=by unfold zaP at *; rw [List.length_take]; omega
theorem zEU (a:Option Addr) (cap:Nat) (l:List ByteArray) (s:ByteArray) (w:World) (hl:Has w (zaW a 1 encS l)) (hs:zaP l.length) :
  Calls Tryz.prog 109 #[.slice a l.length cap,.string s] w (Pure (.int .i64 (zbJ (fun z:ByteArray=>s.toList == z.toList) l)) w):=by
 refine zan (vs:=[_,_]) Tryz.func109 rfl rfl (bL rfl) (gS (gA rfl (gN [0,1,4] rfl (zac (gS (gM rfl (gQ (zaV (Tryz.underlying26) rfl) (gM rfl (gN [0,1,4,7,8] rfl (zas (zbf (X:=Int) (fun(i:Int)=>[(0,.slice a l.length cap),(1,.string s),(4,.int .i64 0),(7,.int .i64 (l.length:Int)),(8,.int .i64 i)]) (fun(i:Int)=>[]) (fun(i:Int)=>(0≤i∧i≤l.length∧∀ j:Nat,(j:Int) < i→(s.toList == (l.getD j default).toList)=false)) (fun(i:Int)=>(l.length - i).toNat) 0 (sB rfl) rfl ?_ ?_)))))))))))
 ·exact⟨by omega,by omega,fun j hj=>by omega⟩
 ·rintro i hI
  obtain⟨g0,g1,g2⟩:=hI
  refine gS (gQ (zbw rfl rfl) (gN [0,1,4,7,8,9] rfl (zac (zap rfl (fun hc9=>?_) (fun hc9=>?_)))))
  ·simp only [dT] at hc9
   refine zaq (zac (zas (gS (gM rfl (gA rfl (gN [0,1,4,5,7,8] rfl (gS (gM rfl (gM rfl (gM rfl (gQ (zaE se26 rfl rfl (fun _=>rH hl)) (gQ (zcE tf9 rfl (fun _=>rH hl) (by omega) (by omega) rfl) (gQ (zge rfl rfl) (gN [0,1,4,5,7,8,16] rfl (zap rfl (fun hc16=>?_) (fun hc16=>?_))))))))))))))))
   ·
    refine gS (gM rfl (gA rfl (gN [0,1,4,7,8] rfl (zaw (zay (zaC rfl (zau rfl)) ?_)))))
    exact congrArg (fun n=>Value.int .i64 n) (zcs (p:=(fun z:ByteArray=>s.toList == z.toList)) g0 (by omega) g2 hc16).symm
   ·
    refine zaq (zaa (gQ (zaY rfl rfl) (gM rfl (gN [0,1,4,7,8] rfl ?_))))
    exact za1 _ (sB rfl) rfl ⟨by omega,by omega,fun j hj=>if h:(j:Int) < i then g2 j h else(by rw [show j=i.toNat from by omega]; exact hc16)⟩ (by omega)
  ·simp only [dF] at hc9
   refine za8 rfl (gS (gA rfl (gN [4] rfl (zaw (zay (zaC rfl (zau rfl)) ?_)))))
   exact congrArg (fun n=>Value.int .i64 n) (zck (p:=(fun z:ByteArray=>s.toList == z.toList)) (fun j hj=>g2 j (by omega))).symm
theorem zB8 (a:Option Addr) (cap:Nat) (l:List ByteArray) (s:ByteArray) (w:World) (hl:Has w (zaW a 1 encS l)) (hs:zaP l.length) :
  Calls Tryz.prog 77 #[.slice a l.length cap,.string s] w (Pure (.bool (hasS l s)) w):=by
 refine zan (vs:=[_,_]) Tryz.func77 rfl rfl (bL rfl) (gS (gA rfl (gN [0,1,4] rfl (gS (gM rfl (gM rfl (gQ (zaJ zw2 rfl (fun w hw=>zEU _ _ l s w (rH hl hw) (by assumption))) (gQ (zfx rfl rfl) (gA rfl (gN [4] rfl (zaw (zay (zaC rfl (zau rfl)) ?_))))))))))))
 rw [ze9]; rfl
theorem zFJ (n:Int) (w:World)  :
  Calls Tryz.prog 74 #[.int .i64 n] w (Pure (.bool (zC8 n)) w):=by
 refine zan (vs:=[_]) Tryz.func74 rfl rfl (bL rfl) (gS (gA rfl (gN [0,2] rfl (gS (gM rfl (gQ (zaJ en58 rfl (fun w hw=>zyR _ _ _ w)) (gQ (zbR rfl) (gA rfl (gN [2] rfl (zaw (zay (zaC rfl (zau rfl)) ?_)))))))))))
 rfl
end Go.Proofs.YteepmmghanbllaaGreatDoor