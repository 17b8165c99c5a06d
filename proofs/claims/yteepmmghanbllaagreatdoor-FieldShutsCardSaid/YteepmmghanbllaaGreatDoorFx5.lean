/- What the proof of the root text leans on, part 5: the layer, plain facts and walks. No statement of the seat is proved in this text. -/
import Derived.Test.YteepmmghanbllaaGreatDoorFx4
set_option maxRecDepth 100000
set_option maxHeartbeats 32000000
namespace Go.Proofs.YteepmmghanbllaaGreatDoor
open Go.K Go.Stn Go.Pln Go.RowKit
theorem en69:En Tryz.prog 69:=eK Tryz.func69
theorem en70:En Tryz.prog 70:=eK Tryz.func70
theorem en95:En Tryz.prog 95:=eK Tryz.func95
theorem zwu  (w:World):(Instr.build 37 #[]).run Tryz.prog w=.ok (.agg #[C none 0 0,C none 0 0]) w:=by kernel_rfl
theorem zny:∀ (k:Int) (l:List ByteArray),∀ a∈numV k l,a.length=2
 | _,[],_,h=>by cases h
 | k,t :: r,a,h=>by
  rw [numV] at h
  rcases List.mem_cons.1 h with rfl|h'
  ·rfl
  ·exact zny (k+1) r a h'
theorem zj3 {u:ByteArray} (h:(!(u.toList == (⟨#[]⟩:ByteArray).toList))=true):0<(u.size:Int):=by
 have:¬ u.size=0:=λ e=>by rw [ze8.2 e] at h;exact Bool.noConfusion h
 omega
theorem zt3 {u:ByteArray} (h:(u.toList == (⟨#[]⟩:ByteArray).toList||decide (zee u 0=35))=true):idle u=true:=by
 rw [Bool.or_eq_true] at h
 rcases h with h'|h'
 ·exact zv1 (ze8.1 h')
 ·exact zv2 h'
theorem zrz {u:ByteArray} (h:(u.toList == (⟨#[]⟩:ByteArray).toList||decide (zee u 0=35))=false):idle u=false:=by
 obtain⟨h1,h2⟩:=(oF).1 h
 exact zt2 (λ e=>by rw [ze8.2 e] at h1;cases h1) h2
theorem zrN {l:List ByteArray} {k:Int} {i:Nat} {a:List Value} (h:(numV k l)[i]?=some a):∃ u,l[i]?=some u∧a=[O (k+i),.string u]:=by
 have hi:i<l.length:=by
  have:=(List.getElem?_eq_some_iff.1 h).1
  rwa [zhz] at this
 refine⟨l[i],eG hi,?_⟩
 have:=zkc (k:=k) (eG hi)
 rw [this] at h
 cases h;rfl
abbrev yau (w:World):=Has w (zaW (some ⟨1,0,none⟩) 1 encS zeZ)
abbrev yat (w:World):=Has w (zaW (some ⟨0,0,none⟩) 1 encS opensW)
theorem zus (t:ByteArray) (w:World) (hmx:Has w (IntV 2)) (hcp:yau w) (hop:yat w) :
  Calls Tryz.prog 44 #[.string t] w (zcU (λ z:(Option Addr×Nat×List ShC)×(Option Addr×Nat×List WlC)=>.tuple #[.agg #[C z.1.1 z.1.2.2.length z.1.2.1,C z.2.1 z.2.2.2.length z.2.2.1],O (zgA t).2.1,O (zgA t).2.2]) (λ z=>PlR yP z (zgA t).1) w):=by
 refine zan (vs:=[_]) Tryz.func44 I I (bL I) (gS (zaG I I (zaL tf37 (zs:=[_,_]) I) λ b2=>(zaG I I (zaL tf3 (zs:=[_]) I) λ b3=>(zaG I I (zaL tf46 (zs:=[_]) I) λ b4=>(gN [0,2,3,4] I (zac (gS (gM I (gQ (zeO (Tryz.underlying9) I) (gQ (zc6 I I) (gN [0,2,3,4,10] I (zap I (λ hc10=>?_) (λ hc10=>?_)))))))))))))
 ·refine gS (gQ (zaI (parts:=[]) I zwu) (zaA 2 tf37 I I (vs:=[_,_]) I I I I I (zaA 1 tf3 I I (vs:=[_]) I I I I I (zaA 0 tf46 I I (vs:=[_]) I I I I I (gN [0,2,3,4] I (zpO yP (zaw (zbd ((none,0,[]),(none,0,[])) 0 (zdh I (zbU (i:=3) (vs:=[_,_]) tf37 I I I I) (zcy (i:=2) tf3 I I I) (zcy (i:=1) tf46 I I I)) (by rw [zjq (by have:=oT hc10;omega)] <;> rfl) (by rw [zjq (by have:=oT hc10;omega)] <;> rfl)))))))))
 ·have hlong:¬ t.size > 40000:=by have:=oD hc10;omega
  refine zaq (zac (gS (gM I (zaG I I (zbm en69 I (λ w hw=>zud _ w)) λ b13=>(gN [2,3,4,13] I (zao 3 I (za2 (R':=stR yP b2 (.ok ⟨[],[]⟩)) 0 I (λ B w hA=>zxt hA) (zao 2 I (zao 3 I (zao 2 I (zao 3 I (zas (gK [2,3,4,13] I (zj0 (X:=Except (Int×Int) Plan) (λ x=>[stR yP b2 x,Box b3 [O (lnE x)] 3,Box b4 [O (erE x)] 46]) (λ n x=>∃ q,x=.ok q∧OkQ q∧zdo ⟨[],[]⟩ 1 (zcb t)=zdo q (1+(n:Int)) ((zcb t).drop n)) (λ x=>x=zdo ⟨[],[]⟩ 1 (zcb t)∧∃ y,x=.error y) [] (.ok ⟨[],[]⟩) I en95 I I ⟨_,rfl,zup,by simp⟩ (zrG t b13 (by omega)) (Has.rd hmx) (zny _ _) I ?_ ?_ ?_ ?_))))))))))))))
  ·rintro R1 R2 rl U' w' n x args hget hR hrd hins hbeg
   obtain⟨u,hs,rfl⟩:=zrN hget
   obtain⟨q,rfl,hq,hle⟩:=hR
   refine gK [2,3,4,14,15] I (gS (gA I (gN [2,3,4,5,15] I (zaa (gA I (gN [2,3,4,5,6] I (za2 (R':=PlP b2 q) 1 I (λ B w hA=>hA) (za2 (R':=Box b3 [O 0] 3) 2 I (λ B w hA=>hA) (za2 (R':=Box b4 [O 0] 46) 3 I (λ B w hA=>hA) (hbeg _ _ _ (zas (zac (zac (gZ 7 (ph_y (zaf I) (ph_y (zge I I) (ph_y (zaf I) (zaz I I (λ hgd=>by(try rw [hgd]);(try have hgd2:=zj3 hgd);exact(zaf I)) (zaz I I (λ hgd=>by(try rw [hgd]);(try have hgd2:=zj3 hgd);exact(zdM (Tryz.underlying9) I I (by omega) (by omega))) (zaz I I (λ hgd=>by(try rw [hgd]);(try have hgd2:=zj3 hgd);exact(zbL I I)) (ph_y (zaR I I I) (gN [2,3,4,5,6,22] I (zap I (λ hc22=>?_) (λ hc22=>?_))))))))))))))))))))))))
   ·have hid:=zt3 hc22
    refine za8 I ?_
    exact zb9 (.ok q) trivial I ⟨_,rfl,hq,by rw [hle,zl1 hs,zoq hid,(show 1+(n:Int)+1=1+((n+1:Nat):Int) from by omega)]⟩
   ·have hid:=zrz hc22
    refine zaq (gS (gM I (zjY 1 en70 I I I (λ w B hF=>zv6 b2 q u w B (λ k hk=>(hF.own k hk).2) hF.A hq (by have:=zom hs;omega) (hF.rd (hrd _ (Has.rd hmx))) (hF.rd (hrd _ (Has.rd hcp))) (hF.rd (hrd _ (Has.rd hop)))) λ z24 hq24=>(gA I (gN [2,3,4,5,7] I (gS (gM I (gQ (zcr I I) (gN [2,3,4,5,7,26] I (zap I (λ hc26=>?_) (λ hc26=>?_)))))))))))
    ·have hk:=zrg (q:=q) (t:=u) (by simpa using hc26)
     refine za2 (R':=plAt yP b2) 1 I (λ B w hA=>by rw [hk] at hA;exact hA) (zao 1 I (zpP λ pa pn pm pb pe pd=>(gS (gQ (zaI (parts:=[]) I zwu) (gM I (gM I (zaA 0 tf37 I I (vs:=[_,_]) I I I I I (zaA 2 tf3 I I (vs:=[_]) I I I I I (zaA 3 tf46 I I (vs:=[_]) I I I I I (gN [2,3,4] I (za2 (R':=stR yP b2 (.error (1+(n:Int),zkJ (zcu q u)))) 0 I (λ B w hA=>hA) (zao 3 I (zao 3 I (zao 2 I (zao 3 I (zaw ?_))))))))))))))))
     exact zb9 (.error (1+(n:Int),zkJ (zcu q u))) trivial I ⟨by rw [hle,zl1 hs,zqr hid hk],_,rfl⟩
    ·obtain⟨q',hq'⟩:=ztu (q:=q) (t:=u) (by simpa using hc26)
     refine za2 (R':=PlP b2 q') 1 I (λ B w hA=>by rw [hq'] at hA;exact hA) (zaq ?_)
     exact zb9 (.ok q') trivial I ⟨_,rfl,zrS hq hq',by rw [hle,zl1 hs,zhB hid hq',(show 1+(n:Int)+1=1+((n+1:Nat):Int) from by omega)]⟩
  ·intro Dm x hR
   obtain⟨q,rfl,hq,hle⟩:=hR
   have hfin:zdo ⟨[],[]⟩ 1 (zcb t)=.ok q:=by rw [hle,zhz,List.drop_of_length_le (Nat.le_refl _)];rfl
   refine za2 (R':=PlP b2 q) 1 I (λ B w hA=>hA) (za2 (R':=Box b3 [O 0] 3) 2 I (λ B w hA=>hA) (za2 (R':=Box b4 [O 0] 46) 3 I (λ B w hA=>hA) (zao 1 I (zgq λ sa sc S wa wc V hS hV=>(gS (gQ (zat 0 tf37 I I (vs:=[_,_]) I I) (zaA 0 tf37 I I (vs:=[_,_]) I I I I I (zaA 6 tf3 I I (vs:=[_]) I I I I I (zaA 7 tf46 I I (vs:=[_]) I I I I I (gN [2,3,4] I (zao 4 I (zao 4 I (zao 4 I (zao 4 I (zbT 4 (za2 (R':=PlR yP ((sa,sc,S),(wa,wc,V)) q) 0 I (λ B w hA=>⟨hS,hV,hA⟩) (zaw (zil 2 I (zbd ((sa,sc,S),(wa,wc,V)) 0 (zdh I (zbU (i:=1) (vs:=[_,_]) tf37 I I I I) (zcy (i:=2) tf3 I I I) (zcy (i:=3) tf46 I I I)) (by rw [zkf hlong hfin] <;> rfl) (by rw [zkf hlong hfin] <;> rfl))))))))))))))))))))
  ·rintro Dm x hD
   obtain⟨hfin,y,rfl⟩:=hD
   have hfin:=hfin.symm
   refine za2 (R':=Box b2 [C none 0 0,C none 0 0] 37) 1 I (λ B w hA=>hA) (za2 (R':=Box b3 [O y.1] 3) 2 I (λ B w hA=>hA) (za2 (R':=Box b4 [O y.2] 46) 3 I (λ B w hA=>hA) (zpO yP (zil 1 I (zbd ((none,0,[]),(none,0,[])) 0 (zdh I (zbU (i:=1) (vs:=[_,_]) tf37 I I I I) (zcy (i:=2) tf3 I I I) (zcy (i:=3) tf46 I I I)) (by rw [zlq hlong hfin] <;> rfl) (by rw [zlq hlong hfin] <;> rfl))))))
  ·exact λ _ _ _ _ h=>absurd h (by simp)
end Go.Proofs.YteepmmghanbllaaGreatDoor
namespace Go.Pln
open Go Go.K Go.RowKit Go.Stn
def smS (S:List ShC) (i:Nat):Bool:=!(decide (20<((S.getD i default).s.heights.length:Int))||decide (40<((S.getD i default).s.name.size:Int)))
def smW (V:List WlC) (i:Nat):Bool:=!(decide (25<((V.getD i default).s.opens.length:Int)))
def zgI (S:List ShC) (V:List WlC):Bool:=allI S.length (smS S)&&(allI V.length (smW V)&&(decide ((S.length:Int)≤25)&&decide ((V.length:Int)≤60)))
section
variable {S:List ShC} {V:List WlC} {i:Int}
theorem zqO (h0:0≤i) (h:i<(S.length:Int)) (hn:smS S i.toNat=false):zgI S V=false:=by
 unfold zgI;rw [zc9 (i:=i.toNat) (by omega) hn,Bool.false_and]
theorem zqP (h0:0≤i) (h:i<(V.length:Int)) (hn:smW V i.toNat=false):zgI S V=false:=by
 unfold zgI;rw [zc9 (i:=i.toNat) (by omega) hn,Bool.false_and,Bool.and_false]
theorem zqN {k:Int} (h1:¬ i<(S.length:Int)) (h2:∀ j:Nat,(j:Int)<i→smS S j=true) (h3:¬ k<(V.length:Int)) (h4:∀ j:Nat,(j:Int)<k→smW V j=true) :
  zgI S V=(decide ((S.length:Int)≤25)&&decide ((V.length:Int)≤60)):=by
 unfold zgI
 rw [zdN (λ j hj=>h2 j (by omega)),zdN (λ j hj=>h4 j (by omega)),Bool.true_and,Bool.true_and]
structure zoN (S:List ShC) (V:List WlC):Prop where
 ls:S.length≤25
 lv:V.length≤60
 sh:∀ z∈S,z.s.heights.length≤20∧z.s.name.size≤40
 wl:∀ z∈V,z.s.opens.length≤25
theorem zmC (h:zgI S V=true):zoN S V:=by
 unfold zgI at h
 simp only [aT,dT] at h
 obtain⟨h1,h2,h3,h4⟩:=h
 refine⟨by omega,by omega,λ z hz=>?_,λ z hz=>?_⟩
 ·obtain⟨i,hi,rfl⟩:=List.getElem_of_mem hz
  have:=zdf.1 h1 i hi
  unfold smS at this
  rw [gE,eG hi] at this
  simp only [Option.getD_some,nT,oF,dF] at this
  omega
 ·obtain⟨i,hi,rfl⟩:=List.getElem_of_mem hz
  have:=zdf.1 h2 i hi
  unfold smW at this
  rw [gE,eG hi] at this
  simp only [Option.getD_some,nT,dF] at this
  omega
end
end Go.Pln
namespace Go.Proofs.YteepmmghanbllaaGreatDoor
open Go.K Go.Stn Go.Pln Go.RowKit
theorem zuI (a:yO) (cap:Nat) (S:List ShC) (b:yO) (bcap:Nat) (V:List WlC) (w:World) (hl:yag w a S) (hs:zaP S.length) (hlw:yah w b V) (hsw:V.length≤4398046511104) (_hfS:yas S) :
  Calls Tryz.prog 43 #[zzz3 a S cap b V bcap] w (Pure (.bool (zgI S V)) w):=by
 refine zan (vs:=[_]) Tryz.func43 I I (bL I) (gS (zaG I I (za3 (vs:=[_,_]) I I) λ b1=>(gA I (gN [1,2] I (zac (gS (gA I (gN [1,2,3] I (zas (zbf (X:=Int) (λ(i:Int)=>[(1,Z b1),(2,.bool false),(3,O i)]) (λ(i:Int)=>[Box b1 (zzz5 a S cap b V bcap) 25]) (λ(i:Int)=>(0≤i∧i≤S.length∧∀ j:Nat,(j:Int)<i→smS S j=true)) (λ(i:Int)=>(S.length - i).toNat) 0 ⟨I,I,I,trivial⟩ rfl ?_ ?_))))))))))
 ·exact⟨by omega,by omega,λ j hj=>by omega⟩
 ·rintro i hI
  obtain⟨g0,g1,g2⟩:=hI
  refine zac (gS (gM I (gQ (zab zd6 I) (gQ (zah 0 tf22 I I I) (gQ (zaV (Tryz.underlying22) I) (gQ (zbw I I) (gN [1,2,3,9] I (zap I (λ hc9=>?_) (λ hc9=>?_)))))))))
  ·have hc9:=oT hc9
   refine zaq (zac (zas (zac (gZ 18 (ph_y (zab zd6 I) (ph_y (zah 0 tf22 I I I) (ph_y (zaf I) (ph_y (zaE se22 I I (λ _=>rH hl)) (ph_y (zbh zzj I (λ w hw=>zaO (i:=i) (rH hl hw))) (ph_y (zbn tf45 I (λ _=>rH hl) (by omega) (by omega) I) (ph_y (zaV (Tryz.underlying45) I) (ph_y (zc6 I I) (ph_y (zaf I) (zaz I I (λ jj=>by(try rw [jj]);exact zab zd6 I) (zaz I I (λ jj=>by(try rw [jj]);exact zah 0 tf22 I I I) (zaz I I (λ jj=>by(try rw [jj]);exact zaf I) (zaz I I (λ jj=>by(try rw [jj]);exact zaE se22 I I (λ _=>rH hl)) (zaz I I (λ jj=>by(try rw [jj]);exact zbh zAK I (λ w hw=>zaO (i:=i) (rH hl hw))) (zaz I I (λ jj=>by(try rw [jj]);exact zbn tf9 I (λ _=>rH hl) (by omega) (by omega) I) (zaz I I (λ jj=>by(try rw [jj]);exact zeO (Tryz.underlying9) I) (zaz I I (λ jj=>by(try rw [jj]);exact zc6 I I) (ph_y (zaR I I I) (gN [1,2,3,29] I (zap I (λ hc29=>?_) (λ hc29=>?_)))))))))))))))))))))))))
   ·have hno:smS S i.toNat=false:=by unfold smS;rw [hc29];rfl
    refine gS (gA I (gN [1,2,3] I (zaw (zay (zaC I (zau I)) ?_))))
    rw [zqO g0 hc9 hno]
   ·have hyes:smS S i.toNat=true:=by unfold smS;rw [hc29];rfl
    refine zaq (zaa (gM I (gQ (zaY I I) (gA I (gN [1,2,3] I ?_)))))
    exact za1 (i+1) ⟨I,I,I,trivial⟩ rfl ⟨by omega,by omega,zdu g0 g2 hyes⟩ (by omega)
  ·have hc9:=oD hc9
   refine za8 I (zac (gS (gA I (gN [1,2,4] I (zas (zbf (X:=Int) (λ(i:Int)=>[(1,Z b1),(2,.bool false),(4,O i)]) (λ(i:Int)=>[Box b1 (zzz5 a S cap b V bcap) 25]) (λ(i:Int)=>(0≤i∧i≤V.length∧∀ j:Nat,(j:Int)<i→smW V j=true)) (λ(i:Int)=>(V.length - i).toNat) 0 ⟨I,I,I,trivial⟩ rfl ?_ ?_))))))
   ·exact⟨by omega,by omega,λ j hj=>by omega⟩
   ·rintro i hI
    have gi2:=g2;have hgi:=hc9
    rename_i ii
    obtain⟨k0,k1,k2⟩:=hI
    refine zac (gS (gM I (gQ (zab zdT I) (gQ (zah 0 tf23 I I I) (gQ (zaV (Tryz.underlying23) I) (gQ (zbw I I) (gN [1,2,4,34] I (zap I (λ hc34=>?_) (λ hc34=>?_)))))))))
    ·have hc34:=oT hc34
     refine zaq (zac (zas (gS (gQ (zab zdT I) (gQ (zah 0 tf23 I I I) (gM I (gQ (zaE se23 I I (λ _=>rH hlw)) (gQ (zbh zyN I (λ w hw=>zaO (i:=i) (rH hlw hw))) (gQ (zbn zAj I (λ _=>rH hlw) (by omega) (by omega) I) (gQ (zaV (Tryz.underlying132) I) (gQ (zc6 I I) (gN [1,2,4,44] I (zap I (λ hc44=>?_) (λ hc44=>?_))))))))))))))
     ·have hno:smW V i.toNat=false:=by unfold smW;rw [hc44];rfl
      refine gS (gA I (gN [1,2,4] I (zaw (zay (zaC I (zau I)) ?_))))
      rw [zqP k0 hc34 hno]
     ·have hyes:smW V i.toNat=true:=by unfold smW;rw [hc44];rfl
      refine zaq (zaa (gM I (gQ (zaY I I) (gA I (gN [1,2,4] I ?_)))))
      exact za1 (i+1) ⟨I,I,I,trivial⟩ rfl ⟨by omega,by omega,zdu k0 k2 hyes⟩ (by omega)
    ·have hc34:=oD hc34
     refine za8 I (zac (gZ 11 (ph_y (zab zd6 I) (ph_y (zah 0 tf22 I I I) (ph_y (zaV (Tryz.underlying22) I) (ph_y (zeT I I) (ph_y (zaf I) (zaH I I (λ jj=>by(try rw [jj]);exact zab zdT I) (zaH I I (λ jj=>by(try rw [jj]);exact zah 0 tf23 I I I) (zaH I I (λ jj=>by(try rw [jj]);exact zaV (Tryz.underlying23) I) (zaH I I (λ jj=>by(try rw [jj]);exact zeT I I) (ph_y (zaX I I I) (ph_y (zad I) (gN [2] I (zaw (zay (zaC I (zau I)) ?_))))))))))))))))
     rw [zqN hc9 g2 hc34 k2]
end Go.Proofs.YteepmmghanbllaaGreatDoor
namespace Go.K
open Go Go.RowKit
section
variable {α:Type} {enc:α→List Value} {k:Nat} {c:Cx} {ds:List Deferred} {T:List (Nat×Value)} {H:List Res} {d:Option Nat} {x y:Operand} {ty:TypeId} {ps:String} {af:Array Edge} {g:Option (Nat×Bool)}
theorem zoJ {t e:TypeId} {by_:Nat} {zs:List Value} {a2:Option Addr} {c2:Nat} {m:List α} (hf:AF c.P t e k by_ zs) (he:Enc k enc)
  (hx:evo T x=some (.slice none 0 0)) (hy:evo T y=some (.slice a2 m.length c2)) (hm:∀ w,Hp c.U c.w0 H w→Has w (zaW a2 k enc m))
  (hb:m.length*by_≤140737488355328) (hlm:m.length≤maxLen) :
  YX c ds H T ⟨d,.call ⟨.builtin .append,#[x,y],#[t,t]⟩,ty,ps,af,g⟩ (λ z:Option Addr×Nat=>.slice z.1 m.length z.2) (λ z=>Row z.1 k z.2 e enc m):=by
 by_cases h0:m.length=0
 ·obtain rfl:=List.eq_nil_of_length_eq_zero h0
  refine⟨λ A w hs _=>?_⟩
  unfold Yld
  rw [zcp («as»:=[x,y]) (vs:=[.slice none 0 0,.slice a2 0 c2]) (by simp [evs,hx,hy]) hs w]
  simp only [builtin]
  rw [zbu (ziA hf (Nat.le_refl 0))]
  exact⟨(none,0),rfl,Ext.rfl,λ _=>False,λ _ h=>h.elim,.inl ⟨rfl,rfl,rfl⟩⟩
 ·exact zlO (a:=none) (cap:=0) (l:=[]) hf he hx hy (λ _ _=>⟨λ _=>False,λ _ h=>h.elim,.inl ⟨rfl,rfl,rfl⟩⟩) hm (by simpa using hb) (by simpa using hlm) (by simp;omega)
end
end Go.K
namespace Go.Pln
open Go Go.K Go.RowKit Go.Stn
section
variable {α:Type} [Inhabited α] {p:α→Bool}
theorem zey {l:List α} {i:Int} (h0:0≤i) (h:i<(l.length:Int)):l.take (i+1).toNat=l.take i.toNat++[l.getD i.toNat default]:=by
 rw [show(i+1).toNat=i.toNat+1 from by omega,List.take_add_one,gE,eG (by omega)];rfl
end
end Go.Pln
namespace Go.Proofs.YteepmmghanbllaaGreatDoor
open Go.K Go.Stn Go.Pln Go.RowKit
theorem zAX (x0 x1:ByteArray) (x2:Int) (w:World):(Instr.build 116 #[(0,.string x0),(1,.string x1),(2,O x2)]).run Tryz.prog w=.ok (.agg #[.string x0,.string x1,O x2,C none 0 0]) w:=by kernel_rfl
theorem zyp (x0:ByteArray) (x1 x2 x3 x4:Int) (x5a:yO) (x5n x5c:Nat) (x6 x7 x8 x9 x10 x11 x12 x13 x14 x15 x16 x17 x18 x19:Int) (w:World):(Instr.build 118 #[(0,.string x0),(1,O x1),(2,O x2),(3,O x3),(4,O x4),(5,C x5a x5n x5c),(6,O x6),(7,O x7),(8,O x8),(9,O x9),(10,O x10),(11,O x11),(12,O x12),(13,.int .u8 x13),(14,O x14),(15,O x15),(16,O x16),(17,O x17),(18,O x18),(19,O x19)]).run Tryz.prog w=.ok (.agg #[.string x0,O x1,O x2,O x3,O x4,C x5a x5n x5c,O x6,O x7,O x8,O x9,O x10,O x11,O x12,.int .u8 x13,O x14,O x15,O x16,O x17,O x18,O x19]) w:=by kernel_rfl
theorem zzH (x0 x1 x2 x3 x4:Int) (w:World):(Instr.build 122 #[(0,.int .u8 x0),(1,O x1),(2,O x2),(3,O x3),(4,O x4)]).run Tryz.prog w=.ok (.agg #[.int .u8 x0,O x1,O x2,O x3,O x4]) w:=by kernel_rfl
theorem zrH (s:Sht) (b:yO) (bcap:Nat) (w:World) (hl:Has w (Ints b s.heights)) (hs:s.heights.length≤17592186044416) :
  Calls Tryz.prog 67 #[.agg #[.string s.name,O s.base,O s.batter,O s.height,O s.skin,C b s.heights.length bcap,O s.least,O s.lap,O s.run,O s.every,O s.at_,O s.footing,O s.spread,.int .u8 s.cope,O s.tall,O s.short,O s.thick,O s.low,O s.high,O s.rood]] w (zcU (λ z:Option Addr×Nat=>.agg #[.string s.name,O s.base,O s.batter,O s.height,O s.skin,C z.1 s.heights.length z.2,O s.least,O s.lap,O s.run,O s.every,O s.at_,O s.footing,O s.spread,.int .u8 s.cope,O s.tall,O s.short,O s.thick,O s.low,O s.high,O s.rood]) (λ z=>Row z.1 1 z.2 3 D s.heights) w):=by
 refine zan (vs:=[_]) Tryz.func67 I I (bL I) (gS (zaG I I (za3 (vs:=[_,_,_,_,_,_,_,_,_,_,_,_,_,_,_,_,_,_,_,_]) I I) λ b1=>(zaG I I (zaL zyq (zs:=[_,_,_,_,_,_,_,_,_,_,_,_,_,_,_,_,_,_,_,_]) I) λ b2=>(gN [1,2] I (zac (gZ 41 (ph_y (zab zAK I) (ph_y (zah 1 tf9 I I I) (ph_y (zab zCl I) (ph_y (zah 1 tf3 I I I) (ph_y (zab zCm I) (ph_y (zah 1 tf3 I I I) (ph_y (zab zyH I) (ph_y (zah 1 tf3 I I I) (ph_y (zab zDP I) (ph_y (zah 1 tf3 I I I) (ph_y (zab zzj I) (ph_y (zah 1 tf45 I I I) (zmr (zoJ (m:=s.heights) af45 Go.Stn.encI_ok I I (λ _=>rH hl) (by omega) (by unfold maxLen;omega)) (ph_y (zab zCn I) (ph_y (zah 1 tf3 I I I) (ph_y (zab zDQ I) (ph_y (zah 1 tf3 I I I) (ph_y (zab zDR I) (ph_y (zah 1 tf3 I I I) (ph_y (zab zCo I) (ph_y (zah 1 tf3 I I I) (ph_y (zab zBt I) (ph_y (zah 1 tf3 I I I) (ph_y (zab zCM I) (ph_y (zah 1 tf3 I I I) (ph_y (zab zCN I) (ph_y (zah 1 tf3 I I I) (ph_y (zab zzz I) (ph_y (zah 1 tf5 I I I) (ph_y (zab zzZ I) ?_))))))))))))))))))))))))))))))))))))
 refine ph_y (zah 1 tf3 I I I) (ph_y (zab zAv I) (ph_y (zah 1 tf3 I I I) (ph_y (zab zBu I) (ph_y (zah 1 tf3 I I I) (ph_y (zab zCO I) (ph_y (zah 1 tf3 I I I) (ph_y (zab zBv I) (ph_y (zah 1 tf3 I I I) (ph_y (zab zCP I) (ph_y (zah 1 tf3 I I I) ?_))))))))))
 intro z15
 refine gK [2,4,6,8,10,12,15,17,19,21,23,25,27,29,31,33,35,37,39,41,43] I (gQ (zaI I (zyp _ _ _ _ _ _ _ _ _ _ _ _ _ _ _ _ _ _ _ _ _ _)) (zbz 1 zyq I I (vs:=[_,_,_,_,_,_,_,_,_,_,_,_,_,_,_,_,_,_,_,_]) I I I I I (gN [2] I (zaw (zbd (z15.1,z15.2) 0 (zaC I (zbU (i:=1) (vs:=(sV s z15.1 z15.2)) zyq I I I I)) ?_ I)))))
 rfl
theorem zuf (v:Wll) (b:yO) (bcap:Nat) (w:World) (hv:yaq w b v) (hs:v.opens.length≤3518437208883) :
  Calls Tryz.prog 68 #[.agg #[.string v.name,.string v.sheet,O v.length,C b v.opens.length bcap]] w (zcU (λ z:Option Addr×Nat=>.agg #[.string v.name,.string v.sheet,O v.length,C z.1 v.opens.length z.2]) (λ z=>Row z.1 5 z.2 122 zba v.opens) w):=by
 refine zan (vs:=[_]) Tryz.func68 I I (bL I) (gS (zaG I I (za3 (vs:=[_,_,_,_]) I I) λ b1=>(zaG I I (zaL zyz (zs:=[_,_,_,_]) I) λ b2=>(gN [1,2] I (gS (gQ (zab zBs I) (gQ (zah 1 tf9 I I I) (gQ (zab zCk I) (gQ (zah 1 tf9 I I I) (gQ (zab zAJ I) (gQ (zah 1 tf3 I I I) (gQ (zaI I (zAX _ _ _)) (zaG I I (zaL zyz (zs:=[_,_,_,_]) I) λ b3=>(zaA 0 zyz I I (vs:=[_,_,_,_]) I I I I I (gN [1,2,3] I (zac (gS (gA I (gN [1,2,3,4] I (zas (zbB 122 zba 5 (zbf (X:=Int×Option Addr×Nat×List Opn) (λ⟨i,ra,rc,M⟩=>[(1,Z b1),(2,Z b2),(3,Z b3),(4,O i)]) (λ⟨i,ra,rc,M⟩=>[Row ra 5 rc 122 zba M,Box b3 [.string v.name,.string v.sheet,O v.length,C ra M.length rc] 116,Box b2 [.string ⟨#[]⟩,.string ⟨#[]⟩,O 0,C none 0 0] 116,Box b1 (wV v b bcap) 134]) (λ⟨i,ra,rc,M⟩=>(0≤i∧i≤v.opens.length∧M=v.opens.take i.toNat)) (λ⟨i,ra,rc,M⟩=>(v.opens.length - i).toNat) (0,none,0,[]) ⟨I,I,I,I,trivial⟩ rfl ?_ ?_))))))))))))))))))))))
 ·exact⟨by omega,by omega,rfl⟩
 ·rintro ⟨i,ra,rc,M⟩ hI
  obtain⟨g0,g1,g2⟩:=hI
  have hml:M.length≤v.opens.length:=by rw [g2,List.length_take];omega
  have hml2:M.length≤i.toNat:=by rw [g2,List.length_take];omega
  refine zac (gS (gM I (gQ (zab zyN I) (gQ (zah 3 zAj I I I) (gQ (zaV (Tryz.underlying132) I) (gQ (zbw I I) (gN [1,2,3,4,17] I (zap I (λ hc17=>?_) (λ hc17=>?_)))))))))
  ·have hc17:=oT hc17
   refine zaq (zac (zas (gS (gQ (zab zyN I) (gQ (zah 3 zAj I I I) (gM I (gQ (zaE zEf I I (λ _=>rH hv)) (gQ (zbv (vs:=[_,_,_,_,_]) zzW I (λ _=>rH hv) (by omega) (by omega) I) (zaG I I (zaL zzW (zs:=[_,_,_,_,_]) I) λ b5=>(zaA 0 zzW I I (vs:=[_,_,_,_,_]) I I I I I (gN [1,2,3,4,5] I (zaa (gQ (zab zyL I) (gQ (zah 2 zAi I I I) (gQ (zab zzr I) (gQ (zah 0 tf5 I I I) (gQ (zab zzP I) (gQ (zah 0 tf3 I I I) (gQ (zab zzQ I) (gQ (zah 0 tf3 I I I) (gQ (zab zyC I) (gQ (zah 0 tf3 I I I) (gQ (zab zzs I) (gQ (zah 0 tf3 I I I) (gQ (zaI I (zzH _ _ _ _ _)) (zaG I I (zaD I (zDy _ _ _ _ _) zyn I) λ b38=>?_))))))))))))))))))))))))))
   refine zb4 (m:=[(v.opens.getD i.toNat default)]) 2 zFD zyn I I I I (λ _ hw=>(zam zyn (hw.has (p:=0) I))) (by first|omega|(simp only [lC,lN];omega)) (by first|(unfold maxLen;omega)|(simp only [lC,lN,maxLen];omega)) λ a39 c39=>(gQ (zab zyL I) (zaA 3 zAi I I (vs:=[_]) I I I I I (gN [1,2,3,4] I (zaa (gM I (gQ (zaY I I) (gA I (gN [1,2,3,4] I (zaK 0 I (zaK 0 I ?_))))))))))
   exact za1 (i+1,_,_,_) ⟨I,I,I,I,trivial⟩ rfl ⟨by omega,by omega,by rw [g2,zey g0 hc17]⟩ (by simp only [];omega)
  ·have hc17:=oD hc17
   obtain rfl:M=v.opens:=by rw [g2,List.take_of_length_le (by omega)]
   refine za8 I (gS (gQ (zat 1 zyz I I (vs:=[_,_,_,_]) I I) (zaA 2 zyz I I (vs:=[_,_,_,_]) I I I I I (gN [2] I (zaw (zbd (ra,rc) 0 (zaC I (zbU (i:=2) (vs:=[_,_,_,_]) zyz I I I I)) ?_ I))))))
   rfl
theorem en67:En Tryz.prog 67:=eK Tryz.func67
theorem en68:En Tryz.prog 68:=eK Tryz.func68
theorem map_take {α β:Type} [Inhabited α] (f:α→β) {l m:List α} {i:Int} {x:α} (h0:0≤i) (h:i<(l.length:Int)) (hm:m.map f=(l.take i.toNat).map f) (hx:f x=f (l.getD i.toNat default)):(m++[x]).map f=(l.take (i+1).toNat).map f:=by
 rw [List.map_append,hm,show(i+1).toNat=i.toNat+1 from by omega,List.take_add_one,eG (by omega),List.map_append]
 congr 1
 show [f x]=[f l[i.toNat]]
 rw [hx,gE,eG (by omega)];rfl
theorem zue (a:yO) (cap:Nat) (S:List ShC) (b:yO) (bcap:Nat) (V:List WlC) (w:World) (hl:yag w a S) (hlw:yah w b V) (hsh:yab S w) (hss:∀ z∈S,z.s.heights.length≤17592186044416) (hwo:yaa V w) (hsv:∀ z∈V,z.s.opens.length≤3518437208883) (hsl:S.length≤764877654104) (hvl:V.length≤2199023255552) :
  Calls Tryz.prog 42 #[zzz3 a S cap b V bcap] w (zcU (λ z:(Option Addr×Nat×List ShC)×(Option Addr×Nat×List WlC)=>.agg #[C z.1.1 z.1.2.2.length z.1.2.1,C z.2.1 z.2.2.2.length z.2.2.1]) (λ z=>PlR yP z ⟨S.map (·.s),V.map (·.s)⟩) w):=by
 refine zan (vs:=[_]) Tryz.func42 I I (bL I) (gS (zaG I I (za3 (vs:=[_,_]) I I) λ b1=>(zaG I I (zaL tf37 (zs:=[_,_]) I) λ b2=>(gN [1,2] I (gS (zaG I I (zaL tf37 (zs:=[_,_]) I) λ b3=>(gN [1,2,3] I (zac (gS (gA I (gN [1,2,3,4] I (zas (zbB 118 zbH 20 (zjj (rowH 3) (zbf (X:=Int×Option Addr×Nat×List ShC) (λ⟨i,ra,rc,S2⟩=>[(1,Z b1),(2,Z b2),(3,Z b3),(4,O i)]) (λ⟨i,ra,rc,S2⟩=>[Go.K.Rows (rowH 3) S2,Row ra 20 rc 118 zbH S2,Box b3 [C ra S2.length rc,C none 0 0] 37,Box b2 [C none 0 0,C none 0 0] 37,Box b1 (zzz5 a S cap b V bcap) 25]) (λ⟨i,ra,rc,S2⟩=>(0≤i∧i≤S.length∧S2.map (·.s)=(S.take i.toNat).map (·.s))) (λ⟨i,ra,rc,S2⟩=>(S.length - i).toNat) (0,none,0,[]) ⟨I,I,I,I,trivial⟩ rfl ?_ ?_)))))))))))))))
 ·exact⟨by omega,by omega,rfl⟩
 ·rintro ⟨i,ra,rc,S2⟩ hI
  obtain⟨g0,g1,g2⟩:=hI
  have hml:S2.length≤S.length:=by have:=congrArg List.length g2;rw [lM,lM,List.length_take] at this;omega
  have hml2:S2.length≤i.toNat:=by have:=congrArg List.length g2;rw [lM,lM,List.length_take] at this;omega
  refine zac (gS (gM I (gQ (zab zd6 I) (gQ (zah 4 tf22 I I I) (gQ (zaV (Tryz.underlying22) I) (gQ (zbw I I) (gN [1,2,3,4,10] I (zap I (λ hc10=>?_) (λ hc10=>?_)))))))))
  ·have hc10:=oT hc10
   refine zaq (zac (zas (zCs [] (ch [(7,(Option Addr×Nat)),(8,Nat)]) 1000 9 [0,1,0,4,0,28,60,124,252,511,1023,2047] [] I (λ _=>mixed) (by kernel_rfl) (zjK _ ⟨inferInstance,inferInstance,trivial⟩) (pY (λ ρ=>zab zkW I) (pY (λ ρ=>zah 2 tf34 I I I) (pY (λ ρ=>zab zd6 I) (pY (λ ρ=>zah 4 tf22 I I I) (pY (λ ρ=>zaf I) (pY (λ ρ=>zaE se22 I I (λ _=>rH hl)) (pY (λ ρ=>zbv (vs:=[_,_,_,_,_,_,_,_,_,_,_,_,_,_,_,_,_,_,_,_]) zzu I (λ _=>rH hl) (by omega) (by omega) I) (zFy (λ ρ=>zbm en67 I (λ w hw=>zrH ((S.getD i.toNat default).s) _ _ w (Rd.has (Has.rd (hsh _ (za0 (by omega)))) hw) (hss _ (za0 (by omega))))) (λ ρ ρ' h=>⟨by rfl,by rfl⟩) (zFy (λ ρ=>zaD I (zFp (⟨(S.getD i.toNat default).s,(ρ 7).1,(ρ 7).2⟩:ShC)) zbI I) (λ ρ ρ' h=>⟨by(first|rfl|(simp only [h 7 I];done)|(simp only [h 7 I];rfl)),by(first|rfl|(simp only [h 7 I];done)|(simp only [h 7 I];rfl))⟩) ?_))))))))))))
   refine λ ρ=>zf4 (X:=(Option Addr×Nat)×Nat) (ρ 7,ρ 8) (λ⟨p20,b21⟩=>[(1,Z b1),(2,Z b2),(3,Z b3),(4,O i),(14,C ra S2.length rc),(21,C (some ⟨b21,0,none⟩) 1 1)]) (λ⟨p20,b21⟩=>[Row (some ⟨b21,0,none⟩) 20 1 118 zbH [(⟨(S.getD i.toNat default).s,p20.1,p20.2⟩:ShC)],Row p20.1 1 p20.2 3 D (S.getD i.toNat default).s.heights,Go.K.Rows (rowH 3) S2,Row ra 20 rc 118 zbH S2,Box b3 [C ra S2.length rc,C none 0 0] 37,Box b2 [C none 0 0,C none 0 0] 37,Box b1 (zzz5 a S cap b V bcap) 25]) (sB I) I ?_
   rintro ⟨p20,b21⟩
   refine zb4 (m:=[(⟨(S.getD i.toNat default).s,p20.1,p20.2⟩:ShC)]) 3 af34 zbI I I I I (λ _ hw=>(zam zbI (hw.has (p:=0) I))) (by first|omega|(simp only [lC,lN];omega)) (by first|(unfold maxLen;omega)|(simp only [lC,lN,maxLen];omega)) λ a22 c22=>(gQ (zab zkW I) (zaA 4 tf34 I I (vs:=[_]) I I I I I (gN [1,2,3,4] I (zao 1 I (zao 2 I (zbT 2 (za2 (R':=Go.K.Rows (rowH 3) (S2++[(⟨(S.getD i.toNat default).s,p20.1,p20.2⟩:ShC)])) 0 I (λ B w hA=>zfr (f:=rowH 3) hA) (zaa (gM I (gQ (zaY I I) (gA I (gN [1,2,3,4] I (zaK 1 I ?_)))))))))))))
   exact za1 (i+1,_,_,_) ⟨I,I,I,I,trivial⟩ rfl ⟨by omega,by omega,map_take _ g0 hc10 g2 I⟩ (by simp only [];omega)
  ·have hc10:=oD hc10
   have hS2:S2.map (·.s)=S.map (·.s):=by rw [g2,List.take_of_length_le (by omega)]
   clear g0 g1 g2 hml hml2
   refine za8 I (zac (gS (gA I (gN [1,2,3,5] I (zas (zbB 116 zbS 4 (zjj (rowO 122) (zbf (X:=Int×Option Addr×Nat×List WlC) (λ⟨i,rb,rd,V2⟩=>[(1,Z b1),(2,Z b2),(3,Z b3),(5,O i)]) (λ⟨i,rb,rd,V2⟩=>[Go.K.Rows (rowO 122) V2,Row rb 4 rd 116 zbS V2,Go.K.Rows (rowH 3) S2,Row ra 20 rc 118 zbH S2,Box b3 (zzz5 ra S2 rc rb V2 rd) 37,Box b2 [C none 0 0,C none 0 0] 37,Box b1 (zzz5 a S cap b V bcap) 25]) (λ⟨i,rb,rd,V2⟩=>(0≤i∧i≤V.length∧V2.map (·.s)=(V.take i.toNat).map (·.s))) (λ⟨i,rb,rd,V2⟩=>(V.length - i).toNat) (0,none,0,[]) ⟨I,I,I,I,trivial⟩ rfl ?_ ?_))))))))
   ·exact⟨by omega,by omega,rfl⟩
   ·rintro ⟨i,rb,rd,V2⟩ hI
    obtain⟨g0,g1,g2⟩:=hI
    have hml:V2.length≤V.length:=by have:=congrArg List.length g2;rw [lM,lM,List.length_take] at this;omega
    have hml2:V2.length≤i.toNat:=by have:=congrArg List.length g2;rw [lM,lM,List.length_take] at this;omega
    refine zac (gS (gM I (gQ (zab zdT I) (gQ (zah 6 tf23 I I I) (gQ (zaV (Tryz.underlying23) I) (gQ (zbw I I) (gN [1,2,3,5,28] I (zap I (λ hc28=>?_) (λ hc28=>?_)))))))))
    ·have hc28:=oT hc28
     refine zaq (zac (zas (zCs [] (ch [(7,(Option Addr×Nat)),(8,Nat)]) 1000 9 [0,1,0,4,0,28,60,124,252,511,1023,2047] [] I (λ _=>mixed) (by kernel_rfl) (zjK _ ⟨inferInstance,inferInstance,trivial⟩) (pY (λ ρ=>zab zna I) (pY (λ ρ=>zah 4 tf35 I I I) (pY (λ ρ=>zab zdT I) (pY (λ ρ=>zah 6 tf23 I I I) (pY (λ ρ=>zaf I) (pY (λ ρ=>zaE se23 I I (λ _=>rH hlw)) (pY (λ ρ=>zbv (vs:=[_,_,_,_]) zAk I (λ _=>rH hlw) (by omega) (by omega) I) (zFy (λ ρ=>zbm en68 I (λ w hw=>zuf ((V.getD i.toNat default).s) _ _ w (Rd.has (Has.rd (hwo _ (za0 (by omega)))) hw) (hsv _ (za0 (by omega))))) (λ ρ ρ' h=>⟨by rfl,by rfl⟩) (zFy (λ ρ=>zaD I (zo0 (⟨(V.getD i.toNat default).s,(ρ 7).1,(ρ 7).2⟩:WlC)) zbo I) (λ ρ ρ' h=>⟨by(first|rfl|(simp only [h 7 I];done)|(simp only [h 7 I];rfl)),by(first|rfl|(simp only [h 7 I];done)|(simp only [h 7 I];rfl))⟩) ?_))))))))))))
     refine λ ρ=>zf4 (X:=(Option Addr×Nat)×Nat) (ρ 7,ρ 8) (λ⟨p38,b39⟩=>[(1,Z b1),(2,Z b2),(3,Z b3),(5,O i),(32,C rb V2.length rd),(39,C (some ⟨b39,0,none⟩) 1 1)]) (λ⟨p38,b39⟩=>[Row (some ⟨b39,0,none⟩) 4 1 116 zbS [(⟨(V.getD i.toNat default).s,p38.1,p38.2⟩:WlC)],Row p38.1 5 p38.2 122 zba (V.getD i.toNat default).s.opens,Go.K.Rows (rowO 122) V2,Row rb 4 rd 116 zbS V2,Go.K.Rows (rowH 3) S2,Row ra 20 rc 118 zbH S2,Box b3 (zzz5 ra S2 rc rb V2 rd) 37,Box b2 [C none 0 0,C none 0 0] 37,Box b1 (zzz5 a S cap b V bcap) 25]) (sB I) I ?_
     rintro ⟨p38,b39⟩
     refine zb4 (m:=[(⟨(V.getD i.toNat default).s,p38.1,p38.2⟩:WlC)]) 3 af35 zbo I I I I (λ _ hw=>(zam zbo (hw.has (p:=0) I))) (by first|omega|(simp only [lC,lN];omega)) (by first|(unfold maxLen;omega)|(simp only [lC,lN,maxLen];omega)) λ a40 c40=>(gQ (zab zna I) (zaA 6 tf35 I I (vs:=[_]) I I I I I (gN [1,2,3,5] I (zao 1 I (zao 2 I (zbT 2 (za2 (R':=Go.K.Rows (rowO 122) (V2++[(⟨(V.getD i.toNat default).s,p38.1,p38.2⟩:WlC)])) 0 I (λ B w hA=>zfr (f:=rowO 122) hA) (zaa (gM I (gQ (zaY I I) (gA I (gN [1,2,3,5] I (zaK 1 I ?_)))))))))))))
     exact za1 (i+1,_,_,_) ⟨I,I,I,I,trivial⟩ rfl ⟨by omega,by omega,map_take _ g0 hc28 g2 I⟩ (by simp only [];omega)
    ·have hc28:=oD hc28
     have hV2:V2.map (·.s)=V.map (·.s):=by rw [g2,List.take_of_length_le (by omega)]
     refine za8 I (gS (gQ (zat 4 tf37 I I (vs:=[_,_]) I I) (zaA 5 tf37 I I (vs:=[_,_]) I I I I I (gN [2] I (zao 1 I (zao 2 I (zao 3 I (zbT 4 (za2 (R':=PlR yP ((ra,rc,S2),(rb,rd,V2)) ⟨S.map (·.s),V.map (·.s)⟩) 0 I (λ B w hA=>⟨hS2,hV2,hA⟩) (zaw (zbd ((ra,rc,S2),(rb,rd,V2)) 0 (zaC I (zbU (i:=2) (vs:=[_,_]) tf37 I I I I)) ?_ I)))))))))))
     rfl
noncomputable def daleT:ByteArray:=match Tryz.f45.body with
 | some (.seq _ (.seq (.region _ ops _) _))=>(match ops[0]? with
  | some o=>(match o.op with
   | .assign (.const (.string b))=>b
   | _=>⟨#[]⟩)
  | none=>⟨#[]⟩)
 | _=>⟨#[]⟩
theorem zvl  (w:World)  :
  Calls Tryz.prog 45 #[] w (Pure (.string daleT) w):=by
 refine zan (vs:=[]) Tryz.func45 I I (bL I) (gS (gA I (gN [0] I (gS (gA I (gN [0] I (zaw (zay (zaC I (zau I)) ?_))))))))
 rfl
theorem zpe:daleT.size≤40000:=by decide +kernel
end Go.Proofs.YteepmmghanbllaaGreatDoor
namespace Go.Pln
open Go Go.K Go.RowKit Go.Stn
def zdD (s:Sht):Int:=if s.cope=3 then s.short else s.tall
end Go.Pln
namespace Go.Pln
open Go Go.K Go.RowKit Go.Stn
structure zFA (v:Wll) (top:Int):Prop where
 len:1≤v.length∧v.length≤100000
 num:v.opens.length≤20
 fit:∀ o∈v.opens,zn8 v.length top o
theorem zoC {v:Wll} {top:Int} (h:zd1 top v=true):zFA v top:=by
 have h0:=zqW h
 obtain⟨h1,h2⟩:=zgM h0
 refine⟨h1,h2,λ o ho=>?_⟩
 rw [zgN,aT] at h
 obtain⟨i,hi,rfl⟩:=List.getElem_of_mem ho
 have:=zf7 (zdf.1 h.2 i hi)
 simpa [hi] using this
def zb6 (S:List ShC) (V:List WlC) (n:ByteArray):Int:=if zc4 S V=true then(if 0≤zaM V n then 0 else 6) else 2
def zhq (V:List WlC) (n:ByteArray):WlC:=if 0≤zaM V n then V.getD (zaM V n).toNat default else default
def zaN (S:List ShC) (V:List WlC) (n:ByteArray):WlC:=if zb6 S V n=0 then zhq V n else default
def zar (S:List ShC) (V:List WlC) (n:ByteArray):ShC:=if zb6 S V n=0 then zav S (zhq V n).s.sheet else default
theorem zm8 {S:List ShC} {V:List WlC} {n:ByteArray} (h:¬ zc4 S V=true):zb6 S V n=2:=if_neg h
theorem zkV {S:List ShC} {V:List WlC} {n:ByteArray} (h:zc4 S V=true) (h2:¬ 0≤zaM V n):zb6 S V n=6:=by unfold zb6;rw [if_pos h,if_neg h2]
theorem zpp {S:List ShC} {V:List WlC} {n:ByteArray} (h:zc4 S V=true) (h2:0≤zaM V n):zb6 S V n=0:=by unfold zb6;rw [if_pos h,if_pos h2]
theorem zjR {S:List ShC} {V:List WlC} {n:ByteArray} (h:zb6 S V n=0):zc4 S V=true∧0≤zaM V n:=by
 unfold zb6 at h
 by_cases h1:zc4 S V=true
 ·rw [if_pos h1] at h
  refine⟨h1,?_⟩
  by_cases h2:0≤zaM V n
  ·exact h2
  ·rw [if_neg h2] at h;exact absurd h (by decide)
 ·rw [if_neg h1] at h;exact absurd h (by decide)
theorem zid {V:List WlC} {n:ByteArray} (h:0≤zaM V n):zhq V n∈V:=by
 unfold zhq
 rw [if_pos h]
 exact za0 (by have:=zky h;omega)
theorem zhF {S:List ShC} {V:List WlC} {n:ByteArray} (h:zb6 S V n=0):zaN S V n=zhq V n:=if_pos h
theorem zhE {S:List ShC} {V:List WlC} {n:ByteArray} (h:zb6 S V n=0):zar S V n=zav S (zhq V n).s.sheet:=if_pos h
theorem zfu {S:List ShC} {V:List WlC} {n:ByteArray} (h:zb6 S V n=0):zaN S V n∈V∧zar S V n∈S∧za4 (zar S V n).s=true∧zFA (zaN S V n).s (zar S V n).s.height:=by
 obtain⟨h1,h2⟩:=zjR h
 rw [zhF h,zhE h]
 obtain⟨h3,h4⟩:=zf8 h1 _ (zid h2)
 exact⟨zid h2,zgp h3,zls h1 _ (zgp h3),zoC h4⟩
end Go.Pln
namespace Go.Pln
open Go Go.K Go.RowKit Go.Stn
theorem zlB {s:Sht} (h:za4 s=true):badP s=false:=by
 unfold za4 at h
 rw [aT,nT] at h
 exact h.1
theorem zlX {s:Sht} (h:za4 s=true) (h1:¬ s.cope=0):(1≤s.thick∧s.thick≤1000)∧(1≤s.tall∧s.tall≤1000)∧(1≤zdD s∧zdD s≤1000):=by
 have hb:=zlB h
 unfold badP at hb
 simp only [oF,nF] at hb
 have h2:=hb.2
 unfold zgh at h2
 rw [if_neg h1] at h2
 unfold zdD
 split at h2
 ·rename_i h3
  simp only [zcC,zdI,Bool.and_true,aT,zbp] at h2
  rw [if_neg (by omega)]
  omega
 ·split at h2
  ·rename_i h3
   simp only [zcC,zdI,Bool.and_true,aT,zbp] at h2
   rw [if_pos h3]
   omega
  ·cases h2
end Go.Pln
namespace Go.Pln
open Go Go.K Go.RowKit Go.Stn
section
variable {S S2:List ShC} {V V2:List WlC}
theorem zj7 {α β:Type} {f:α→β} {l m:List α} (h:m.map f=l.map f):m.length=l.length:=by
 have:=congrArg List.length h
 rwa [lM,lM] at this
theorem zml {α β:Type} {f:α→β} {Q:β→Prop} {l m:List α} (h:m.map f=l.map f) (hq:∀ z∈l,Q (f z)):∀ z∈m,Q (f z):=λ z hz=>by
 have:f z∈l.map f:=by rw [←h];exact List.mem_map.2 ⟨z,hz,rfl⟩
 obtain⟨y,hy,e⟩:=List.mem_map.1 this
 rw [←e];exact hq y hy
theorem zxz (h:S2.map (·.s)=S.map (·.s)) (i:Nat):(S2.getD i default).s=(S.getD i default).s:=by
 rw [←zeq (λ z:ShC=>z.s) I,h,zeq (λ z:ShC=>z.s) I]
theorem zwq (h:V2.map (·.s)=V.map (·.s)) (i:Nat):(V2.getD i default).s=(V.getD i default).s:=by
 rw [←zeq (λ z:WlC=>z.s) I,h,zeq (λ z:WlC=>z.s) I]
theorem zmQ {α β:Type} {f:α→β} {l m:List α} (h:m.map f=l.map f) (n:Nat) (p:β→Bool):(m.take n).any (λ z=>p (f z))=(l.take n).any (λ z=>p (f z)):=by
 have e:∀ k:List α,(k.take n).any (λ z=>p (f z))=((k.map f).take n).any p:=λ k=>by
  rw [←List.map_take,List.any_map];rfl
 rw [e,e,h]
theorem zlA (h:S2.map (·.s)=S.map (·.s)) (n:ByteArray):zaS S2 n=zaS S n:=by rw [zeL,zeL,h]
theorem ziS (h:V2.map (·.s)=V.map (·.s)) (n:ByteArray):zaM V2 n=zaM V n:=by rw [zkx,zkx,h]
theorem zib (h:S2.map (·.s)=S.map (·.s)) (n:ByteArray):(zav S2 n).s=(zav S n).s:=by rw [zf2,zf2,h]
theorem zow (h:S2.map (·.s)=S.map (·.s)) (i:Nat):shAt S2 i=shAt S i:=by
 unfold shAt
 rw [zxz h i,zmQ h i (λ s:Sht=>s.name.toList == (S.getD i default).s.name.toList)]
theorem zoF (h:S2.map (·.s)=S.map (·.s)) (h2:V2.map (·.s)=V.map (·.s)) (i:Nat):wlAt S2 V2 i=wlAt S V i:=by
 unfold wlAt
 rw [zwq h2 i,zmQ h2 i (λ s:Wll=>s.name.toList == (V.getD i default).s.name.toList),zlA h,zib h]
theorem zmw (h:S2.map (·.s)=S.map (·.s)) (h2:V2.map (·.s)=V.map (·.s)):zc4 S2 V2=zc4 S V:=by
 unfold zc4
 rw [zj7 h,zj7 h2,show shAt S2=shAt S from funext (zow h),show wlAt S2 V2=wlAt S V from funext (zoF h h2)]
theorem zcK (h:S2.map (·.s)=S.map (·.s)) (h2:V2.map (·.s)=V.map (·.s)) (n:ByteArray):zb6 S2 V2 n=zb6 S V n:=by
 unfold zb6;rw [zmw h h2,ziS h2]
theorem zic (h2:V2.map (·.s)=V.map (·.s)) (n:ByteArray):(zhq V2 n).s=(zhq V n).s:=by
 unfold zhq
 rw [ziS h2]
 split
 ·exact zwq h2 _
 ·rfl
theorem zgc (h:S2.map (·.s)=S.map (·.s)) (h2:V2.map (·.s)=V.map (·.s)) (n:ByteArray):(zaN S2 V2 n).s=(zaN S V n).s:=by
 unfold zaN
 rw [zcK h h2]
 split
 ·exact zic h2 n
 ·rfl
theorem zeN (h:S2.map (·.s)=S.map (·.s)) (h2:V2.map (·.s)=V.map (·.s)) (n:ByteArray):(zar S2 V2 n).s=(zar S V n).s:=by
 unfold zar
 rw [zcK h h2]
 split
 ·rw [zib h,zic h2]
 ·rfl
end
end Go.Pln
namespace Go.Fld
open Go Go.K Go.Stn Go.Pln
structure Bdr where
 a:Int
 b:Int
 wall:ByteArray
 gA:Int
 gB:Int
 shut:Bool
instance:Inhabited Bdr:=⟨⟨0,0,⟨#[]⟩,0,0,false⟩⟩
abbrev zyr (x:Bdr):List Value:=[.int .i64 x.a,.int .i64 x.b,.string x.wall,.int .i64 x.gA,.int .i64 x.gB,.bool x.shut]
theorem zyx:Enc 6 zyr:=⟨λ _=>rfl,λ _=>rfl,by decide⟩
structure Anm where
 wide:Int
 high:Int
 step:Int
 leap:Int
 reach:Int
instance:Inhabited Anm:=⟨⟨0,0,0,0,0⟩⟩
abbrev zHc (x:Anm):List Value:=[O x.wide,O x.high,O x.step,O x.leap,O x.reach]
structure Crg where
 frm:Int
 to:Int
 brd:Int
 way:Int
 eff:Int
instance:Inhabited Crg:=⟨⟨0,0,0,0,0⟩⟩
abbrev zzK (x:Crg):List Value:=[O x.frm,O x.to,O x.brd,O x.way,O x.eff]
theorem zy5:Enc 5 zzK:=⟨λ _=>rfl,λ _=>rfl,by decide⟩
abbrev zyw (x:Crg×Crg):List Value:=[O x.1.frm,O x.1.to,O x.1.brd,O x.1.way,O x.1.eff,O x.2.frm,O x.2.to,O x.2.brd,O x.2.way,O x.2.eff]
theorem zyl:Enc 10 zyw:=⟨λ _=>rfl,λ _=>rfl,by decide⟩
def inZ (n lo hi:Int):Bool:=decide (lo≤n)&&decide (n≤hi)
def zy8 (s:Sht) (z:Int):Int:=if za4 s=true∧0≤z∧z≤s.height then zb5 s z else 0
def zzc (s:Sht) (g:Int):Int:=s.height+s.tall - g
def byG (s:Sht) (shut:Bool) (g h:Int) (o:Opn) (x:Anm):Int×Bool:=
 if o.width<x.wide then(0,false)
 else if o.kind=4 then(1,!shut)
 else if o.kind=3 then(max (o.frm - g) 0+1,decide (o.frm - g≤x.leap)&&decide (zy8 s o.frm≤x.reach))
 else(max (o.frm - g) 0+1,decide (o.frm - g≤x.step)&&decide (x.high≤o.frm+o.high - max (max o.frm g) h))
def btr (r:Int×Int) (n c:Int):Int×Int:=if (decide (r.1 = -2)||decide (c<r.2))=true then(n,c) else r
def zyB (s:Sht) (shut:Bool) (g h:Int) (l:List Opn) (x:Anm):Nat→Int×Int
 | 0=>(-2,0)
 | n+1=>if (byG s shut g h (l.getD n default) x).2=true then btr (zyB s shut g h l x n) n (byG s shut g h (l.getD n default) x).1 else zyB s shut g h l x n
def hopG (s:Sht) (g:Int) (x:Anm):Bool:=decide (zzc s g≤x.leap)&&decide (zy8 s s.height≤x.reach)
def zzX (s:Sht) (shut:Bool) (g h:Int) (l:List Opn) (x:Anm):Int×Int:=
 if hopG s g x=true then btr (zyB s shut g h l x l.length) (-1) (max (zzc s g) 0+1) else zyB s shut g h l x l.length
def mayR (s:Sht) (shut:Bool) (g h:Int) (l:List Opn) (x:Anm) (way:Int):Int×Bool:=
 if way = -1 then(1+max (zzc s g) 0,hopG s g x)
 else if way<0∨(l.length:Int)≤way then(0,false)
 else
  let o:=l.getD way.toNat default
  if o.width<x.wide then(0,false)
  else if o.kind=4 then(1,!shut)
  else if o.kind=3 then(1+max (o.frm - g) 0,decide (o.frm - g≤x.leap)&&decide (zy8 s o.frm≤x.reach))
  else(1+max (o.frm - g) 0,decide (o.frm - g≤x.step)&&decide (x.high≤o.frm+o.high - max o.frm (max g h)))
structure Acr where
 way:Int
 eff:Int
 some:Bool
def wayN (l:List Opn) (n:Nat):Int:=if n=l.length then -1 else n
def acrN (s:Sht) (shut:Bool) (g h:Int) (l:List Opn) (x:Anm):Nat→Acr
 | 0=>⟨0,0,false⟩
 | n+1=>
  let r:=acrN s shut g h l x n
  let c:=mayR s shut g h l x (wayN l n)
  if (c.2&&(!r.some||decide (c.1<r.eff)))=true then⟨wayN l n,c.1,true⟩ else r
def acrG (s:Sht) (shut:Bool) (g h:Int) (l:List Opn) (x:Anm):Acr:=acrN s shut g h l x (l.length+1)
section
variable {s:Sht} {shut:Bool} {g h:Int} {l:List Opn} {x:Anm}
theorem zHi {n:Nat} (hn:n<l.length):mayR s shut g h l x n=byG s shut g h (l.getD n default) x:=by
 have h1:¬ ((n:Int) = -1):=by omega
 have h2:¬ ((n:Int)<0∨(l.length:Int)≤n):=by omega
 unfold mayR byG
 rw [if_neg h1,if_neg h2]
 simp only [Int.toNat_natCast]
 have e:∀ z:Int,1+max z 0=max z 0+1:=λ z=>by omega
 have e2:∀ o:Opn,max o.frm (max g h)=max (max o.frm g) h:=λ o=>by omega
 simp only [e,e2]
def zAN (r:Acr):Int×Int:=if r.some=true then(r.way,r.eff) else(-2,0)
theorem zBF:∀ n,n≤l.length→zAN (acrN s shut g h l x n)=zyB s shut g h l x n∧((acrN s shut g h l x n).some=true→0≤(acrN s shut g h l x n).way)
 | 0,_=>⟨rfl,λ h=>by cases h⟩
 | n+1,hn=>by
  obtain⟨h1,h2⟩:=zBF n (by omega)
  have hw:wayN l n=n:=if_neg (by omega)
  unfold acrN zyB
  simp only [hw,zHi (s:=s) (shut:=shut) (g:=g) (h:=h) (x:=x) (show n<l.length by omega)]
  generalize byG s shut g h (l.getD n default) x=c
  rw [←h1]
  generalize acrN s shut g h l x n=r at h2
  obtain⟨c1,c2⟩:=c
  obtain⟨w,e,b⟩:=r
  cases c2 with
  | false=>simpa using h2
  | true=>
   cases b with
   | false=>simp [zAN,btr]
   | true=>
    have h3:0≤w:=h2 I
    by_cases hc:c1<e
    ·simp [zAN,btr,hc]
    ·have h4:¬ w = -2:=by omega
     simp [zAN,btr,hc,h4,h3]
theorem zED:zAN (acrG s shut g h l x)=zzX s shut g h l x:=by
 obtain⟨h1,h2⟩:=zBF (s:=s) (shut:=shut) (g:=g) (h:=h) (l:=l) (x:=x) l.length (Nat.le_refl _)
 have hw:wayN l l.length = -1:=if_pos I
 have hm:mayR s shut g h l x (-1)=(1+max (zzc s g) 0,hopG s g x):=if_pos I
 unfold acrG acrN zzX
 simp only [hw,hm]
 rw [←h1]
 have e1:1+max (zzc s g) 0=max (zzc s g) 0+1:=by omega
 rw [e1]
 generalize max (zzc s g) 0+1=c1
 generalize acrN s shut g h l x l.length=r at h2
 obtain⟨w,e,b⟩:=r
 cases hopG s g x with
 | false=>simp
 | true=>
  cases b with
  | false=>simp [zAN,btr]
  | true=>
   have h3:0≤w:=h2 I
   have h4:¬ w = -2:=by omega
   by_cases hc:c1<e
   ·simp [zAN,btr,hc]
   ·simp [zAN,btr,hc,h4]
end
theorem zGH {s:Sht} (h:za4 s=true):0≤s.tall∧s.tall≤1000:=by
 by_cases hc:s.cope=0
 ·have hb:=zlB h
  unfold badP at hb
  simp only [oF,nF] at hb
  have h2:=hb.2
  unfold zgh at h2
  rw [if_pos hc] at h2
  simp only [aT,dT] at h2
  omega
 ·have:=(zlX h hc).2.1
  omega
structure Gnd (s:Sht) (v:Wll) (g h:Int):Prop where
 sp:za4 s=true
 wf:zFA v s.height
 g:-3000≤g∧g≤3000
 h:-3000≤h∧h≤3000
theorem Gnd.nums {s:Sht} {v:Wll} {g h:Int} (hg:Gnd s v g h):1≤s.height∧s.height≤3000∧0≤s.tall∧s.tall≤1000:=by
 have h1:=(zaZ hg.sp).height
 have h2:=zGH hg.sp
 omega
theorem zGy {s:Sht} {v:Wll} {g h:Int} (hg:Gnd s v g h):-3000≤zzc s g∧zzc s g≤7000:=by
 have:=hg.nums;have:=hg.g
 unfold zzc;omega
end Go.Fld
namespace Go.K
open Go Go.RowKit
def MapZ (b:Nat) (l:List (Int×Value)):Res where
 A B w:=(∀ j,B j↔j=b)∧∃ es clock,w.heap[b]?=some (.map es clock)∧es.toList.map (λ e=>(e.key,e.val))=l.map (λ s=>(Value.int .i64 s.1,s.2))
 loc _ _ _ h hA:=⟨hA.1,by obtain⟨es,clock,h1,h2⟩:=hA.2;exact⟨es,clock,(h b ((hA.1 b).2 rfl)).trans h1,h2⟩⟩
def zget:List (Int×Value)→Int→Option Value
 | [],_=>none
 | p :: r,n=>if n=p.1 then some p.2 else zget r n
def zput:List (Int×Value)→Int→Value→List (Int×Value)
 | [],n,v=>[(n,v)]
 | p :: r,n,v=>if n=p.1 then(n,v) :: r else p :: zput r n v
theorem zAG (n:Int):∀ (es:List MapEntry) (l:List (Int×Value)) (i:Nat),es.map (λ e=>(e.key,e.val))=l.map (λ s=>(Value.int .i64 s.1,s.2)) →
  (Instr.findNow (.int .i64) (O n) es i=some none∧zget l n=none∧∀ u,zput l n u=l++[(n,u)]) ∨
  (∃ j v,Instr.findNow (.int .i64) (O n) es i=some (some (i+j,v))∧zget l n=some v∧(es[j]?).map (·.key)=some (O n)∧∀ u,zput l n u=l.set j (n,u))
 | [],[],i,_=>.inl ⟨rfl,rfl,λ _=>rfl⟩
 | [],_ :: _,_,h=>by simp at h
 | _ :: _,[],_,h=>by simp at h
 | e :: es,q :: l,i,h=>by
  simp only [List.map_cons,List.cons.injEq,Prod.mk.injEq] at h
  obtain⟨⟨h1,h2⟩,h3⟩:=h
  unfold Instr.findNow
  rw [h1]
  by_cases hq:n=q.1
  ·subst hq
   refine .inr ⟨0,q.2,?_,?_,?_,λ u=>?_⟩
   ·simp [Instr.sameNow,h2]
   ·simp [zget]
   ·simp [h1]
   ·simp [zput]
  ·have hb:(n == q.1)=false:=by simpa using hq
   rcases zAG n es l (i+1) h3 with ⟨g1,g2,g3⟩ | ⟨j,v,g1,g2,g3,g4⟩
   ·exact .inl ⟨by simpa [Instr.sameNow,hb] using g1,by simpa [zget,hq] using g2,λ u=>by simp [zput,hq,g3]⟩
   ·exact .inr ⟨j+1,v,by simpa [Instr.sameNow,hb,Nat.add_assoc,Nat.add_comm 1 j] using g1,by simpa [zget,hq] using g2,by simpa using g3,λ u=>by simp [zput,hq,g4]⟩
structure MZ (P:Program) (t k e:TypeId) (n:Nat) (ag:Bool) (z:Value):Prop where
 u:P.underlying t=some (.map k e)
 k:P.underlying k=some (.int .i64)
 e:TF P e ag n z
theorem zyX {k:TypeId} {P:Program} {w:World} (hk:P.underlying k=some (.int .i64)) (e:Bool) (n:Int):(Instr.checkKey e 10000 k (O n)).run P w=.ok () w:=by
 unfold Instr.checkKey
 rw [zal (zaU hk)]
 rfl
section
variable {c:Cx} {ds:List Deferred} {p:Post} {T:List (Nat×Value)} {H:List Res} {ops:Array Oper} {rest:List Oper} {d:Option Nat} {ty:TypeId} {ps:String} {af:Array Edge} {g:Option (Nat×Bool)} {x y:Operand}
theorem zCB {t:TypeId}:YX c ds H T ⟨d,.makeMap t none,ty,ps,af,g⟩ (λ b=>.map (some b)) (λ b=>MapZ b []):=by
 refine⟨λ a w ha hw=>?_⟩
 unfold Yld
 have:(execOp a.eval ⟨d,.makeMap t none,ty,ps,af,g⟩).run c.P w=.ok (.value (.map (some w.heap.size))) (w.alloc (.map #[] 0)):=by
  simp only [execOp]
  exact zbu I
 rw [this]
 refine⟨w.heap.size,rfl,zcG _,(· = w.heap.size),λ k hk=>by subst hk;simp,λ k=>Iff.rfl,#[],0,World.alloc_heap_new w _,rfl⟩
theorem zAV {t k e:TypeId} {n:Nat} {ag:Bool} {z:Value} {b:Nat} {l:List (Int×Value)} {s:Int} (hm:MZ c.P t k e n ag z) (hx:evo T x=some (.map (some b))) (hy:evo T y=some (O s)) (h:∀ w,Hp c.U c.w0 H w→Has w (MapZ b l)) :
  Y c ds H T ⟨d,.lookup t x y false,ty,ps,af,g⟩ ((zget l s).getD z):=
 zcz λ a w ha hw=>by
  obtain⟨B,_,_,es,clock,hb,hes⟩:=h w hw
  simp only [execOp,ha.eval hx,ha.eval hy]
  refine zbu ?_
  unfold Instr.lookup
  rw [zal (zaU hm.u)]
  dsimp only
  rw [zal (zjt hb)]
  dsimp only
  rw [zal (v:=es) (w':=w) I,zal (zyX hm.k _ s)]
  have hf:∀ r,Instr.findNow (.int .i64) (O s) es.toList 0=some r→(Instr.findKey k (O s) es.toList).run c.P w=.ok r w:=λ r hr=>by
   unfold Instr.findKey
   rw [zal (zaU hm.k),hr]
   rfl
  rcases zAG s es.toList l 0 hes with ⟨g1,g2,_⟩ | ⟨j,v,g1,g2,_,_⟩
  ·rw [g2,zal (hf _ g1)]
   dsimp only
   rw [zal hm.e.zero,zal (v:=((z,false):Value×Bool)) (w':=w) I]
   rfl
  ·rw [g2,zal (hf _ g1)]
   dsimp only
   rw [zal (v:=((v,true):Value×Bool)) (w':=w) I]
   rfl
theorem zA8 {t k e:TypeId} {z:Operand} {zz:Value} {n:Nat} {ag:Bool} {b:Nat} {l:List (Int×Value)} {s:Int} {u:Value} (i:Nat) (hm:MZ c.P t k e n ag zz) (hx:evo T x=some (.map (some b))) (hy:evo T y=some (O s)) (hz:evo T z=some u) (hi:H[i]?=some (MapZ b l))
  (kk:GK c ds (KL c ops p rest) T (H.set i (MapZ b (zput l s u)))):GK c ds (KL c ops p (⟨none,.mapUpdate t x y z,ty,ps,af,none⟩ :: rest)) T H:=by
 refine zjZ I (λ a w ha hw=>?_) kk
 obtain⟨B0,hB0,hA0⟩:=hw.has hi
 obtain⟨hBb,es,clock,hb,hes⟩:=hA0
 have hput:∀ (o:Obj) (es':Array MapEntry) (clock':Nat),o=.map es' clock'→es'.toList.map (λ e=>(e.key,e.val))=(zput l s u).map (λ s=>(Value.int .i64 s.1,s.2)) →
   (Instr.mapUpdate t (.map (some b)) (O s) u).run c.P w=.ok () (w.putObj b o) →
   Yld c.P ⟨none,.mapUpdate t x y z,ty,ps,af,none⟩ a w (λ _ w'=>Hp c.U c.w0 (H.set i (MapZ b (zput l s u))) w'):=by
  intro o es' clock' ho he hr
  subst ho
  unfold Yld
  have:(execOp a.eval ⟨none,.mapUpdate t x y z,ty,ps,af,none⟩).run c.P w=.ok .skip (w.putObj b (.map es' clock')):=by
   simp only [execOp,ha.eval hx,ha.eval hy,ha.eval hz]
   rw [zal hr]
   rfl
  rw [this]
  refine hw.upd hi λ B hB hA=>⟨B,zj8 ((hA.1 b).2 I),λ k hk=>.inl hk,hA.1,es',clock',?_,he⟩
  exact World.putObj_heap_same (hB0 b ((hBb b).2 I))
 have hfk:∀ r,Instr.findNow (.int .i64) (O s) es.toList 0=some r→(Instr.findKey k (O s) es.toList).run c.P w=.ok r w:=λ r hr=>by
  unfold Instr.findKey
  rw [zal (zaU hm.k),hr]
  rfl
 rcases zAG s es.toList l 0 hes with ⟨g1,_,g3⟩ | ⟨j,v,g1,_,g3,g4⟩
 ·refine hput _ (es.push { key:=O s,val:=u,born:=clock }) (clock+1) I (by rw [g3];simp [hes]) ?_
  unfold Instr.mapUpdate
  rw [zal (zaU hm.u)]
  dsimp only
  rw [zal (zjt hb)]
  dsimp only
  rw [zal (zyX hm.k _ s),zal (hfk _ g1)]
  dsimp only
  simp [setObj,Sem.run,hb,World.putObj]
 ·rw [Nat.zero_add] at g1
  have hk1:((es[j]?).map (·.key)).getD (O s)=O s:=by
   have:=g3
   rw [Array.getElem?_toList] at this
   rw [this];rfl
  refine hput _ (es.modify j λ e=>{ e with key:=O s,val:=u }) clock I ?_ ?_
  ·rw [g4,List.map_set,←hes]
   rw [Array.toList_modify]
   obtain⟨e0,he0⟩:∃ e0,es.toList[j]?=some e0:=by
    cases h:es.toList[j]? with
    | none=>rw [h] at g3;cases g3
    | some e0=>exact⟨e0,rfl⟩
   refine List.ext_getElem? λ m=>?_
   rw [List.getElem?_map,List.getElem?_modify,List.getElem?_set,List.getElem?_map]
   by_cases hm:j=m
   ·subst hm
    rw [he0]
    have hlt:j<es.size:=by simpa using (List.getElem?_eq_some_iff.1 he0).1
    simp [hlt]
   ·simp [hm]
  ·unfold Instr.mapUpdate
   rw [zal (zaU hm.u)]
   dsimp only
   rw [zal (zjt hb)]
   dsimp only
   rw [zal (zyX hm.k _ s),zal (hfk _ g1)]
   dsimp only
   rw [hk1]
   have hks:(Instr.keyThatStays (O s) (O s)).run c.P w=.ok (O s) w:=by
    unfold Instr.keyThatStays
    rw [if_pos (by simp [Instr.sameBits])]
    rfl
   rw [zal hks]
   simp [setObj,Sem.run,hb,World.putObj]
end
section
variable {c:Cx} {ds:List Deferred} {T:List (Nat×Value)} {H:List Res} {d:Option Nat} {ty:TypeId} {ps:String} {af:Array Edge} {g:Option (Nat×Bool)}
theorem zHt {x y z:Operand} {tys:Array TypeId} {k:IntKind} {l m n:Int} (hx:evo T x=some (.int k l)) (hy:evo T y=some (.int k m)) (hz:evo T z=some (.int k n)) :
  Y c ds H T ⟨d,.call ⟨.builtin .max,#[x,y,z],tys⟩,ty,ps,af,g⟩ (.int k (max (max l m) n)):=
 zcz λ a w hs _=>by
  rw [zcp («as»:=[x,y,z]) (vs:=[.int k l,.int k m,.int k n]) (by simp [evs,hx,hy,hz]) hs w]
  simp only [builtin]
  refine zbu ?_
  show Result.ok (Value.int k (if n > (if m > l then m else l) then n else(if m > l then m else l))) w=_
  congr 2
  by_cases h:m > l
  ·rw [if_pos h,Int.max_eq_right (a:=l) (by omega)]
   by_cases h2:n > m
   ·rw [if_pos h2,Int.max_eq_right (by omega)]
   ·rw [if_neg h2,Int.max_eq_left (by omega)]
  ·rw [if_neg h,Int.max_eq_left (a:=l) (by omega)]
   by_cases h2:n > l
   ·rw [if_pos h2,Int.max_eq_right (by omega)]
   ·rw [if_neg h2,Int.max_eq_left (by omega)]
theorem zBZ {α:Type} {k:Nat} {enc:α→List Value} {x y:Operand} {t e:TypeId} {by_:Nat} {zs:List Value} {a a2:Option Addr} {cap c2:Nat} {l m:List α} (hf:AF c.P t e k by_ zs) (he:Enc k enc)
  (hx:evo T x=some (.slice a l.length cap)) (hy:evo T y=some (.slice a2 m.length c2)) (hm:∀ w,Hp c.U c.w0 H w→Has w (zaW a2 k enc m)) (hb:(l.length+m.length)*by_≤140737488355328) (hl:l.length+m.length≤maxLen) :
  zCC c ds T H ⟨d,.call ⟨.builtin .append,#[x,y],#[t,t]⟩,ty,ps,af,none⟩ (Row a k cap e enc l) (λ z:Option Addr×Nat=>.slice z.1 (l++m).length z.2) (λ z=>Row z.1 k z.2 e enc (l++m)):=by
 refine⟨λ A w B hs hw hB hA=>?_⟩
 obtain⟨a',cap',w',B',hr,hmd,ho,hA'⟩:=zfU (P:=c.P) (ty:=ty) hf he (c2:=c2) hA (hm w hw) hb hl
 unfold Yld
 rw [zcp («as»:=[x,y]) (vs:=[.slice a l.length cap,.slice a2 m.length c2]) (by simp [evs,hx,hy]) hs w]
 simp only [builtin]
 rw [zbu hr]
 exact⟨(a',cap'),rfl,hmd,B',ho,hA'⟩
end
end Go.K
namespace Go.Proofs.YteepmmghanbllaaGreatDoor
open Go.K Go.Stn Go.Pln Go.Fld Go.RowKit
theorem en75:En Tryz.prog 75:=eK Tryz.func75
theorem zFn  (w:World):(Instr.build 116 #[]).run Tryz.prog w=.ok (.agg #[.string ⟨#[]⟩,.string ⟨#[]⟩,O 0,C none 0 0]) w:=by kernel_rfl
theorem zG4  (w:World):(Instr.buildSlice 45 0 #[]).run Tryz.prog w=.ok (C (some ⟨w.heap.size,0,none⟩) 0 0) (w.alloc (.cells (([]:List (Int)).flatMap D).toArray 3)):=by kernel_rfl
theorem zFO  (w:World):(Instr.buildSlice 114 0 #[]).run Tryz.prog w=.ok (C (some ⟨w.heap.size,0,none⟩) 0 0) (w.alloc (.cells (([]:List (Opn)).flatMap zba).toArray 122)):=by kernel_rfl
theorem zrM {α:Type} {k:Nat} {enc:α→List Value} {w:World} {a:Option Addr} {l:List α} (h:Has w (zaW a k enc l)) (hn:a.isNone=true):l=[]:=by
 obtain⟨B,_,hA⟩:=h
 rcases hA with h | ⟨b,off,ha,_⟩
 ·exact h
 ·rw [ha] at hn;cases hn
theorem zrd (a:yO) (cap:Nat) (l:List Opn) (w:World) (hl:Has w (zaW a 5 zba l)) (hs:zaP l.length) :
  Calls Tryz.prog 81 #[C a l.length cap] w (zcU (λ z:Option Addr×Nat=>C z.1 l.length z.2) (λ z=>Row z.1 5 z.2 122 zba l) w):=by
 refine zan (vs:=[_]) Tryz.func81 I I (bL I) (gS (gA I (gN [0,2] I (zac (gS (gM I (gQ (zuU (Tryz.underlying114) I I) (gN [0,2,4] I (zap I (λ hc4=>?_) (λ hc4=>?_))))))))))
 ·have hL:l=[]:=zrM hl hc4
  subst hL
  refine zbB 122 zba 5 (gS (gA I (gN [0,2] I (zaw (zbd (none,0) 0 (zaC I (zau I)) ?_ I)))))
  rfl
 ·refine zaq (gS (zaG I I (zaD I (zFO) zyn I) λ b5=>(gM I (zb4 (m:=l) 0 zFD zyn I I I I (λ _=>rH hl) (by unfold zaP at hs;simp only [lN];omega) (by unfold zaP at hs;simp only [lN,maxLen];omega) λ a7 c7=>(gA I (gN [2] I (zaw (zbd (a7,c7) 0 (zaC I (zau I)) ?_ I))))))))
  rfl
theorem zya (a:yO) (cap:Nat) (l:List Int) (w:World) (hl:Has w (Ints a l)) (hs:zaP l.length) :
  Calls Tryz.prog 82 #[C a l.length cap] w (zcU (λ z:Option Addr×Nat=>C z.1 l.length z.2) (λ z=>Row z.1 1 z.2 3 D l) w):=by
 refine zan (vs:=[_]) Tryz.func82 I I (bL I) (gS (gA I (gN [0,2] I (zac (gS (gM I (gQ (zuU (Tryz.underlying45) I I) (gN [0,2,4] I (zap I (λ hc4=>?_) (λ hc4=>?_))))))))))
 ·have hL:l=[]:=zrM hl hc4
  subst hL
  refine zbB 3 D 1 (gS (gA I (gN [0,2] I (zaw (zbd (none,0) 0 (zaC I (zau I)) ?_ I)))))
  rfl
 ·refine zaq (gS (zaG I I (zaD I (zG4) Go.Stn.encI_ok I) λ b5=>(gM I (zb4 (m:=l) 0 af45 Go.Stn.encI_ok I I I I (λ _=>rH hl) (by unfold zaP at hs;simp only [lN];omega) (by unfold zaP at hs;simp only [lN,maxLen];omega) λ a7 c7=>(gA I (gN [2] I (zaw (zbd (a7,c7) 0 (zaC I (zau I)) ?_ I))))))))
  rfl
theorem zhG {w:World} {S:List ShC} {V:List WlC} {n:ByteArray} (h:yab S w):Has w (Ints (zar S V n).a (zar S V n).s.heights):=by
 unfold zar
 split
 ·exact zpL h
 ·exact⟨λ _=>False,λ _ h=>h.elim,.inl I⟩
theorem zfL {w:World} {S:List ShC} {V:List WlC} {n:ByteArray} (h:yaa V w):Has w (zaW (zaN S V n).a 5 zba (zaN S V n).s.opens):=by
 unfold zaN zhq
 split
 ·split
  ·rename_i hk
   exact h _ (za0 (by have:=zky hk;omega))
  ·exact⟨λ _=>False,λ _ h=>h.elim,.inl I⟩
 ·exact⟨λ _=>False,λ _ h=>h.elim,.inl I⟩
theorem zm9 (a:yO) (cap:Nat) (S:List ShC) (b:yO) (bcap:Nat) (V:List WlC) (n:ByteArray) (w:World) (hl:yag w a S) (hs:zaP S.length) (hcS:S.length≤cap) (hlw:yah w b V) (hsw:zaP V.length) (hsh:yab S w) (hss:yac S) (hwo:yaa V w) (hsv:yae V) (hcp:yad V) (hkn:yaf V) :
  Calls Tryz.prog 80 #[zzz3 a S cap b V bcap,.string n] w (Pure (.tuple #[.agg (zbS (zaN S V n)).toArray,.agg (zbH (zar S V n)).toArray,O (zb6 S V n)]) w):=by
 have hlt:=λ h=>zky (S:=V) (n:=n) h
 have hge:-1≤zaM V n:=zrp _ _
 refine zan (vs:=[_,_]) Tryz.func80 I I (bL I) (gS (zaG I I (za3 (vs:=[_,_]) I I) λ b2=>(zaG I I (zaL zyz (zs:=[_,_,_,_]) I) λ b4=>(zaG I I (zaL zyq (zs:=[_,_,_,_,_,_,_,_,_,_,_,_,_,_,_,_,_,_,_,_]) I) λ b5=>(gA I (gN [1,2,4,5,6] I (zac (gS (gQ (zat 2 tf37 I I (vs:=[_,_]) I I) (gQ (zaJ en75 I (λ w hw=>ztt _ _ S _ _ V w (rH hl hw) hs hcS (rH hlw hw) hsw (λ z hz=>(rH (hsh z hz) hw)) hss (λ z hz=>(rH (hwo z hz) hw)) hsv hcp hkn)) (gA I (gN [1,2,4,5,6,7] I (gS (gM I (gQ (zcr I I) (gN [1,2,4,5,6,7,14] I (zap I (λ hc14=>?_) (λ hc14=>?_))))))))))))))))))
 ·have hP:¬ zc4 S V=true:=λ h=>by rw [zeW,if_pos h] at hc14;simp at hc14
  have hE:zb6 S V n=2:=zm8 hP
  have hC:zeW S V=2:=if_neg hP
  refine gS (gQ (zaI (parts:=[]) I zFn) (gQ (zaI (parts:=[]) I zDu) (gM I (zaA 1 zyz I I (vs:=[_,_,_,_]) I I I I I (zbz 0 zyq I I (vs:=[_,_,_,_,_,_,_,_,_,_,_,_,_,_,_,_,_,_,_,_]) I I I I I (gA I (gN [1,2,4,5,6] I (zaw (zay (zdh I (zbU (i:=1) (vs:=[_,_,_,_]) zyz I I I I) (zbU (i:=0) (vs:=[.string ⟨#[]⟩,O 0,O 0,O 0,O 0,C none 0 0,O 0,O 0,O 0,O 0,O 0,O 0,O 0,.int .u8 0,O 0,O 0,O 0,O 0,O 0,O 0]) zyq I I I I) (zau I)) ?_)))))))))
  rw [hC];rw [show zaN S V n=default from if_neg (by rw [hE];decide),show zar S V n=default from if_neg (by rw [hE];decide),hE];rfl
 ·have hP:zc4 S V=true:=Classical.byContradiction λ h=>by rw [zeW,if_neg h] at hc14;simp at hc14
  refine zaq (gS (gQ (zat 2 tf37 I I (vs:=[_,_]) I I) (gM I (gQ (zaJ zw0 I (λ w hw=>zkg _ _ _ _ _ V _ w (rH hlw hw) (by assumption))) (gA I (gN [2,4,5,6,8] I (zac (gS (gM I (gQ (zbw I I) (gN [2,4,5,6,8,22] I (zap I (λ hc22=>?_) (λ hc22=>?_)))))))))))))
  ·have hc22:=oT hc22
   have hE:zb6 S V n=6:=zkV hP (by omega)
   refine gS (gQ (zaI (parts:=[]) I zFn) (gQ (zaI (parts:=[]) I zDu) (zaA 1 zyz I I (vs:=[_,_,_,_]) I I I I I (zbz 0 zyq I I (vs:=[_,_,_,_,_,_,_,_,_,_,_,_,_,_,_,_,_,_,_,_]) I I I I I (gA I (gN [2,4,5,6,8] I (zaw (zay (zdh I (zbU (i:=1) (vs:=[_,_,_,_]) zyz I I I I) (zbU (i:=0) (vs:=[.string ⟨#[]⟩,O 0,O 0,O 0,O 0,C none 0 0,O 0,O 0,O 0,O 0,O 0,O 0,O 0,.int .u8 0,O 0,O 0,O 0,O 0,O 0,O 0]) zyq I I I I) (zau I)) ?_))))))))
   rw [show zaN S V n=default from if_neg (by rw [hE];decide),show zar S V n=default from if_neg (by rw [hE];decide),hE];rfl
  ·have hc22:=oD hc22
   have h0:0≤zaM V n:=by omega
   have h1:=hlt h0
   have hE:zb6 S V n=0:=zpp hP h0
   refine zaq (zac (zCs [] (ch [(11,Nat)]) 1000 14 [0,0,2,0,14,30,62,127,255,511,511,0,3071,8191] [] I (λ _=>mixed) (by kernel_rfl) (zjK _ ⟨inferInstance,trivial⟩) (pY (λ ρ=>zat 2 tf37 I I (vs:=[_,_]) I I) (pY (λ ρ=>zab zna I) (pY (λ ρ=>zah 2 tf35 I I I) (pY (λ ρ=>zaf I) (pY (λ ρ=>zaE se35 I I (λ _=>rH hlw)) (pY (λ ρ=>zbh zBo I (λ w hw=>zaO (i:=(zaM V n)) (rH hlw hw))) (pY (λ ρ=>zbn tf9 I (λ _=>rH hlw) (by omega) (by omega) I) (pY (λ ρ=>zaJ zDb I (λ w hw=>zeu _ _ S _ _ _ _ w (rH hl hw) (by assumption))) (pY (λ ρ=>zaf I) (pY (λ ρ=>zaB I I) (pY (λ ρ=>zaB I I) (zFy (λ ρ=>zaL zyq (zs:=[_,_,_,_,_,_,_,_,_,_,_,_,_,_,_,_,_,_,_,_]) I) (λ ρ ρ' h=>⟨by rfl,by rfl⟩) ?_))))))))))))))
   refine zIb (R:=λ ρ=>Box (ρ 11) [.string ⟨#[]⟩,O 0,O 0,O 0,O 0,C none 0 0,O 0,O 0,O 0,O 0,O 0,O 0,O 0,.int .u8 0,O 0,O 0,O 0,O 0,O 0,O 0] 118) (A:=λ ρ=>Box (ρ 11) [.string (zav S ((V.getD ((zaM V n)).toNat default).s.sheet)).s.name,O ((zav S ((V.getD ((zaM V n)).toNat default).s.sheet)).s.base),O ((zav S ((V.getD ((zaM V n)).toNat default).s.sheet)).s.batter),O ((zav S ((V.getD ((zaM V n)).toNat default).s.sheet)).s.height),O ((zav S ((V.getD ((zaM V n)).toNat default).s.sheet)).s.skin),.slice (zav S ((V.getD ((zaM V n)).toNat default).s.sheet)).a (zav S ((V.getD ((zaM V n)).toNat default).s.sheet)).s.heights.length (zav S ((V.getD ((zaM V n)).toNat default).s.sheet)).cap,O ((zav S ((V.getD ((zaM V n)).toNat default).s.sheet)).s.least),O ((zav S ((V.getD ((zaM V n)).toNat default).s.sheet)).s.lap),O ((zav S ((V.getD ((zaM V n)).toNat default).s.sheet)).s.run),O ((zav S ((V.getD ((zaM V n)).toNat default).s.sheet)).s.every),O ((zav S ((V.getD ((zaM V n)).toNat default).s.sheet)).s.at_),O ((zav S ((V.getD ((zaM V n)).toNat default).s.sheet)).s.footing),O ((zav S ((V.getD ((zaM V n)).toNat default).s.sheet)).s.spread),.int .u8 (zav S ((V.getD ((zaM V n)).toNat default).s.sheet)).s.cope,O ((zav S ((V.getD ((zaM V n)).toNat default).s.sheet)).s.tall),O ((zav S ((V.getD ((zaM V n)).toNat default).s.sheet)).s.short),O ((zav S ((V.getD ((zaM V n)).toNat default).s.sheet)).s.thick),O ((zav S ((V.getD ((zaM V n)).toNat default).s.sheet)).s.low),O ((zav S ((V.getD ((zaM V n)).toNat default).s.sheet)).s.high),O ((zav S ((V.getD ((zaM V n)).toNat default).s.sheet)).s.rood)] 118) 11 I I (λ _=>rfl) (λ ρ=>zex zyq I I (vs:=[_,_,_,_,_,_,_,_,_,_,_,_,_,_,_,_,_,_,_,_]) I I I I I) (λ ρ ρ' h=>by(first|rfl|(simp only [h 11 I];done)|(simp only [h 11 I];rfl))) ?_
   refine pY (λ ρ=>zad I) ?_
   refine λ ρ=>zag (zf4 (X:=Nat) (ρ 11) (λ b9=>[(2,Z b2),(4,Z b4),(5,Z b5),(6,O 0),(8,O (zaM V n)),(9,Z b9)]) (λ b9=>[Box b9 [.string (zav S ((V.getD ((zaM V n)).toNat default).s.sheet)).s.name,O ((zav S ((V.getD ((zaM V n)).toNat default).s.sheet)).s.base),O ((zav S ((V.getD ((zaM V n)).toNat default).s.sheet)).s.batter),O ((zav S ((V.getD ((zaM V n)).toNat default).s.sheet)).s.height),O ((zav S ((V.getD ((zaM V n)).toNat default).s.sheet)).s.skin),.slice (zav S ((V.getD ((zaM V n)).toNat default).s.sheet)).a (zav S ((V.getD ((zaM V n)).toNat default).s.sheet)).s.heights.length (zav S ((V.getD ((zaM V n)).toNat default).s.sheet)).cap,O ((zav S ((V.getD ((zaM V n)).toNat default).s.sheet)).s.least),O ((zav S ((V.getD ((zaM V n)).toNat default).s.sheet)).s.lap),O ((zav S ((V.getD ((zaM V n)).toNat default).s.sheet)).s.run),O ((zav S ((V.getD ((zaM V n)).toNat default).s.sheet)).s.every),O ((zav S ((V.getD ((zaM V n)).toNat default).s.sheet)).s.at_),O ((zav S ((V.getD ((zaM V n)).toNat default).s.sheet)).s.footing),O ((zav S ((V.getD ((zaM V n)).toNat default).s.sheet)).s.spread),.int .u8 (zav S ((V.getD ((zaM V n)).toNat default).s.sheet)).s.cope,O ((zav S ((V.getD ((zaM V n)).toNat default).s.sheet)).s.tall),O ((zav S ((V.getD ((zaM V n)).toNat default).s.sheet)).s.short),O ((zav S ((V.getD ((zaM V n)).toNat default).s.sheet)).s.thick),O ((zav S ((V.getD ((zaM V n)).toNat default).s.sheet)).s.low),O ((zav S ((V.getD ((zaM V n)).toNat default).s.sheet)).s.high),O ((zav S ((V.getD ((zaM V n)).toNat default).s.sheet)).s.rood)] 118,Box b5 [.string ⟨#[]⟩,O 0,O 0,O 0,O 0,C none 0 0,O 0,O 0,O 0,O 0,O 0,O 0,O 0,.int .u8 0,O 0,O 0,O 0,O 0,O 0,O 0] 118,Box b4 [.string ⟨#[]⟩,.string ⟨#[]⟩,O 0,C none 0 0] 116,Box b2 (zzz5 a S cap b V bcap) 37]) (sB I) I ?_)
   rintro b9
   refine zac (zpN (R':=Box b4 (wV ((V.getD ((zaM V n)).toNat default).s) ((V.getD ((zaM V n)).toNat default).a) ((V.getD ((zaM V n)).toNat default).cap)) 116) 6 [5] 2 (λ _=>mixed) I I (by kernel_rfl) I (zcf (zab zna I) (zcf (zah 3 tf35 I I I) (zcf (zaf I) (zcf (zaE se35 I I (λ _=>rH hlw)) (zcf (zbv (vs:=[_,_,_,_]) zyz I (λ _=>rH hlw) (by omega) (by omega) I) (zcf (zat 0 zyq I I (vs:=[_,_,_,_,_,_,_,_,_,_,_,_,_,_,_,_,_,_,_,_]) I I) (⟨zex zyz I I (vs:=[_,_,_,_]) I I I I I,?_⟩))))))))
   refine gK [4,5,6,41] I (zbz 1 zyq I I (vs:=[_,_,_,_,_,_,_,_,_,_,_,_,_,_,_,_,_,_,_,_]) I I I I I (gA I (gN [4,5,6] I (zaw ?_))))
   refine zay (zdh I (zbU (i:=2) (vs:=[_,_,_,_]) zyz I I I I) (zbU (i:=1) (vs:=[.string (zav S ((V.getD ((zaM V n)).toNat default).s.sheet)).s.name,O ((zav S ((V.getD ((zaM V n)).toNat default).s.sheet)).s.base),O ((zav S ((V.getD ((zaM V n)).toNat default).s.sheet)).s.batter),O ((zav S ((V.getD ((zaM V n)).toNat default).s.sheet)).s.height),O ((zav S ((V.getD ((zaM V n)).toNat default).s.sheet)).s.skin),.slice (zav S ((V.getD ((zaM V n)).toNat default).s.sheet)).a (zav S ((V.getD ((zaM V n)).toNat default).s.sheet)).s.heights.length (zav S ((V.getD ((zaM V n)).toNat default).s.sheet)).cap,O ((zav S ((V.getD ((zaM V n)).toNat default).s.sheet)).s.least),O ((zav S ((V.getD ((zaM V n)).toNat default).s.sheet)).s.lap),O ((zav S ((V.getD ((zaM V n)).toNat default).s.sheet)).s.run),O ((zav S ((V.getD ((zaM V n)).toNat default).s.sheet)).s.every),O ((zav S ((V.getD ((zaM V n)).toNat default).s.sheet)).s.at_),O ((zav S ((V.getD ((zaM V n)).toNat default).s.sheet)).s.footing),O ((zav S ((V.getD ((zaM V n)).toNat default).s.sheet)).s.spread),.int .u8 (zav S ((V.getD ((zaM V n)).toNat default).s.sheet)).s.cope,O ((zav S ((V.getD ((zaM V n)).toNat default).s.sheet)).s.tall),O ((zav S ((V.getD ((zaM V n)).toNat default).s.sheet)).s.short),O ((zav S ((V.getD ((zaM V n)).toNat default).s.sheet)).s.thick),O ((zav S ((V.getD ((zaM V n)).toNat default).s.sheet)).s.low),O ((zav S ((V.getD ((zaM V n)).toNat default).s.sheet)).s.high),O ((zav S ((V.getD ((zaM V n)).toNat default).s.sheet)).s.rood)]) zyq I I I I) (zau I)) ?_
   rw [zhF hE,zhE hE,hE,show zhq V n=V.getD (zaM V n).toNat default from if_pos h0]
theorem en80:En Tryz.prog 80:=eK Tryz.func80
theorem en81:En Tryz.prog 81:=eK Tryz.func81
theorem en82:En Tryz.prog 82:=eK Tryz.func82
theorem zxT {S:List ShC} {V:List WlC} {n:ByteArray} (h1:yae V) (h2:yac S):zaP (zaN S V n).s.opens.length∧zaP (zar S V n).s.heights.length:=by
 constructor
 ·unfold zaN zhq
  split
  ·split
   ·rename_i hk
    exact h1 _ (za0 (by have:=zky hk;omega))
   ·decide
  ·decide
 ·unfold zar
  split
  ·exact zrs (P:=λ z=>zaP z.s.heights.length) h2 (by decide)
  ·decide
theorem zyh (a:yO) (cap:Nat) (S:List ShC) (b:yO) (bcap:Nat) (V:List WlC) (n:ByteArray) (w:World) (hl:yag w a S) (hs:zaP S.length) (hcS:S.length≤cap) (hlw:yah w b V) (hsw:zaP V.length) (hsh:yab S w) (hss:yac S) (hwo:yaa V w) (hsv:yae V) (hcp:yad V) (hkn:yaf V) :
  Calls Tryz.prog 50 #[zzz3 a S cap b V bcap,.string n] w (zcU (λ z:(Option Addr×Nat)×(Option Addr×Nat)=>.tuple #[.agg (zbS ⟨(zaN S V n).s,z.1.1,z.1.2⟩).toArray,.agg (zbH ⟨(zar S V n).s,z.2.1,z.2.2⟩).toArray,O (zb6 S V n)]) (λ z=>SepR [Row z.1.1 5 z.1.2 122 zba (zaN S V n).s.opens,Row z.2.1 1 z.2.2 3 D (zar S V n).s.heights]) w):=by
 obtain⟨hsvw,hsss⟩:=zxT (n:=n) hsv hss
 refine zan (vs:=[_,_]) Tryz.func50 I I (bL I) (gS (zaG I I (za3 (vs:=[_,_]) I I) λ b2=>(zaG I I (zaL zyz (zs:=[_,_,_,_]) I) λ b4=>(zaG I I (zaL zyq (zs:=[_,_,_,_,_,_,_,_,_,_,_,_,_,_,_,_,_,_,_,_]) I) λ b5=>(gA I (gN [1,2,4,5,6] I (gS (gQ (zat 2 tf37 I I (vs:=[_,_]) I I) (gM I (gQ (zaJ en80 I (λ w hw=>zm9 _ _ S _ _ V n w (rH hl hw) hs hcS (rH hlw hw) hsw (λ z hz=>(rH (hsh z hz) hw)) hss (λ z hz=>(rH (hwo z hz) hw)) hsv hcp hkn)) (gM I (gQ (zaB I I) (gQ (zaB I I) (gQ (zaB I I) (zaG I I (zaL zyz (zs:=[_,_,_,_]) I) λ b7=>(zaG I I (zaL zyq (zs:=[_,_,_,_,_,_,_,_,_,_,_,_,_,_,_,_,_,_,_,_]) I) λ b8=>(zaA 1 zyz I I (vs:=[_,_,_,_]) I I I I I (zbz 0 zyq I I (vs:=[_,_,_,_,_,_,_,_,_,_,_,_,_,_,_,_,_,_,_,_]) I I I I I (gA I (gN [4,5,6,7,8,9] I (zac (gZ 7 (ph_y (zab zyL I) (ph_y (zah 1 zAi I I I) (zmr (zbm en81 I (λ w hw=>zrd _ _ (zaN S V n).s.opens w (rH (zfL hwo) hw) (hsvw))) (ph_y (zab zzi I) (ph_y (zah 0 tf45 I I I) ?_)))))))))))))))))))))))))))
 refine zmr (λ p19=>zbm en82 I (λ w hw=>zya _ _ (zar S V n).s.heights w (rH (zhG hsh) hw) (hsss))) (ph_y (λ p19=>zab zyL I) ?_)
 intro p22
 intro p19
 refine gK [4,5,6,7,8,9,19,22,23] I (zaA 3 zAi I I (vs:=[_]) I I I I I (gQ (zab zzi I) (zaA 2 tf45 I I (vs:=[_]) I I I I I (gN [4,5,6,7,8,9] I (zac (zao 4 I (zao 5 I (zCs [_,_] (ch []) 1000 6 [0,0,0,1,11,31] [] I (λ _=>mixed) (by kernel_rfl) (zjK _ trivial) (pY (λ ρ=>zat 3 zyz I I (vs:=[_,_,_,_]) I I) (pY (λ ρ=>zat 2 zyq I I (vs:=[_,_,_,_,_,_,_,_,_,_,_,_,_,_,_,_,_,_,_,_]) I I) (pY (λ ρ=>zaf I) (zBT (R:=λ ρ=>Box b4 [.string ⟨#[]⟩,.string ⟨#[]⟩,O 0,C none 0 0] 116) (A:=λ ρ=>Box b4 (wV ((zaN S V n).s) p19.1 p19.2) 116) 1000 I (by kernel_rfl) (by kernel_rfl) (λ _=>by kernel_rfl) (λ ρ=>zex zyz I I (vs:=[_,_,_,_]) I I I I I) (λ ρ ρ' h=>by rfl) (zBT (R:=λ ρ=>Box b5 [.string ⟨#[]⟩,O 0,O 0,O 0,O 0,C none 0 0,O 0,O 0,O 0,O 0,O 0,O 0,O 0,.int .u8 0,O 0,O 0,O 0,O 0,O 0,O 0] 118) (A:=λ ρ=>Box b5 (sV ((zar S V n).s) p22.1 p22.2) 118) 1001 I (by kernel_rfl) (by kernel_rfl) (λ _=>by kernel_rfl) (λ ρ=>zex zyq I I (vs:=[_,_,_,_,_,_,_,_,_,_,_,_,_,_,_,_,_,_,_,_]) I I I I I) (λ ρ ρ' h=>by rfl) ?_)))))))))))))
 refine pY (λ ρ=>zad I) (λ ρ=>zag (zpT (T':=[(4,Z b4),(5,Z b5),(6,O (zb6 S V n))]) (H':=[Box b4 (wV ((zaN S V n).s) p19.1 p19.2) 116,Box b5 (sV ((zar S V n).s) p22.1 p22.2) 118,Row p19.1 5 p19.2 122 zba (zaN S V n).s.opens,Row p22.1 1 p22.2 3 D (zar S V n).s.heights,Box b8 (sV ((zar S V n).s) p22.1 p22.2) 118,Box b7 (wV ((zaN S V n).s) p19.1 p19.2) 116,Box b2 (zzz5 a S cap b V bcap) 37]) ⟨I,I,I,trivial⟩ rfl (zao 3 I (zao 3 I (zbT 2 (zaw (zbd ((p19.1,p19.2),(p22.1,p22.2)) 0 (zdh I (zbU (i:=1) (vs:=[_,_,_,_]) zyz I I I I) (zbU (i:=2) (vs:=(sV ((zar S V n).s) p22.1 p22.2)) zyq I I I I) (zau I)) ?_ I)))))))
 rfl
theorem zjv {S:List ShC} {V:List WlC} (h:zoN S V):(∀ z∈S,zaP z.s.heights.length)∧(∀ z∈V,zaP z.s.opens.length)∧zaP V.length∧S.length≤1000000∧V.length≤1000000:=
 ⟨λ z hz=>by have:=(h.sh z hz).1;unfold zaP;omega,λ z hz=>by have:=h.wl z hz;unfold zaP;omega,by have:=h.lv;unfold zaP;omega,by have:=h.ls;omega,by have:=h.lv;omega⟩
structure X2 (S:List ShC) (V:List WlC) (S2:List ShC) (V2:List WlC):Prop where
 ls:S2.length=S.length
 lv:V2.length=V.length
 s1:zaP S2.length
 s2:zaP V2.length
 s3:∀ z∈S2,zaP z.s.heights.length
 s4:∀ z∈V2,zaP z.s.opens.length
 kn:∀ z∈V2,∀ o∈z.s.opens,Knd o
theorem zxG {S:List ShC} {V:List WlC} {S2:List ShC} {V2:List WlC} (hsm:zoN S V) (hkn:yaf V) (h:S2.map (·.s)=S.map (·.s)) (h2:V2.map (·.s)=V.map (·.s)):X2 S V S2 V2:=by
 obtain⟨a1,a2,a3,_,_⟩:=zjv hsm
 have l1:=zj7 h;have l2:=zj7 h2
 exact⟨l1,l2,by rw [l1];have:=hsm.ls;unfold zaP;omega,by rw [l2];exact a3,zml (Q:=λ s:Sht=>zaP s.heights.length) h a1,zml (Q:=λ v:Wll=>zaP v.opens.length) h2 a2,zml (Q:=λ v:Wll=>∀ o∈v.opens,Knd o) h2 hkn⟩
end Go.Proofs.YteepmmghanbllaaGreatDoor
namespace Go.Fld
open Go Go.K Go.Stn Go.Pln
def hasS (l:List ByteArray) (s:ByteArray):Bool:=l.any λ z=>s.toList == z.toList
def zy0 (cs:List ByteArray) (i:Nat):Bool:=zgx (cs.getD i default)&&!hasS (cs.take i) (cs.getD i default)
def zBj (cs:List ByteArray):Bool:=allI cs.length (zy0 cs)
def zC8 (n:Int):Bool:=!inZ n 0 10000
def zBE (x:Anm):Bool:=!([x.wide,x.high,x.step,x.leap,x.reach].any zC8)
def zzp (S:List ShC) (V:List WlC) (n:Nat) (b:Bdr):Bool:=
 decide (zb6 S V b.wall=0)&&inZ b.a 0 ((n:Int) - 1)&&inZ b.b 0 ((n:Int) - 1)&&!decide (b.a=b.b)&&inZ b.gA (-3000) 3000&&inZ b.gB (-3000) 3000
def zy1 (S:List ShC) (V:List WlC) (cs:List ByteArray) (bs:List Bdr) (x:Anm):Bool:=
 zc4 S V&&inZ (cs.length:Int) 1 40&&!decide (80<(bs.length:Int))&&zBE x
def zym (S:List ShC) (V:List WlC) (cs:List ByteArray) (bs:List Bdr) (x:Anm):Bool:=
 zy1 S V cs bs x&&zBj cs&&allI bs.length λ i=>zzp S V cs.length (bs.getD i default)
def wayB (S:List ShC) (V:List WlC) (x:Anm) (i:Int) (b:Bdr):Crg×Crg:=
 let v:=(zaN S V b.wall).s
 let s:=(zar S V b.wall).s
 (⟨b.a,b.b,i,(zzX s b.shut b.gA b.gB v.opens x).1,(zzX s b.shut b.gA b.gB v.opens x).2⟩,⟨b.b,b.a,i,(zzX s b.shut b.gB b.gA v.opens x).1,(zzX s b.shut b.gB b.gA v.opens x).2⟩)
def zyj (S:List ShC) (V:List WlC) (bs:List Bdr) (x:Anm):List (Crg×Crg):=(List.range bs.length).map λ(i:Nat)=>wayB S V x i (bs.getD i default)
def zBN (S:List ShC) (V:List WlC) (x:Anm) (b:Bdr) (o:Opn):Bool×Bool:=
 let s:=(zar S V b.wall).s
 ((byG s b.shut b.gA b.gB o x).2,(byG s b.shut b.gB b.gA o x).2)
def zyu (S:List ShC) (V:List WlC) (x:Anm) (b:Bdr):List (Bool×Bool):=(zaN S V b.wall).s.opens.map (zBN S V x b)
def zzS (S:List ShC) (V:List WlC) (bs:List Bdr) (x:Anm):List (List (Bool×Bool)):=(List.range bs.length).map λ(i:Nat)=>zyu S V x (bs.getD i default)
def frN (f:Nat→Bool×Bool) (n:Nat):List (Int×Value):=(List.range n).map λ(i:Nat)=>((i:Int),.agg #[.bool (f i).1,.bool (f i).2])
def frZ (l:List (Bool×Bool)):List (Int×Value):=frN (λ i=>l.getD i (false,false)) l.length
theorem zCq (f:Nat→Bool×Bool) {n i:Nat}:zget (frN f n) i=if i<n then some (.agg #[.bool (f i).1,.bool (f i).2]) else none:=by
 have key:∀ (m k:Nat),zget ((List.range' k m).map λ i=>(((i:Nat):Int),(Value.agg #[.bool (f i).1,.bool (f i).2]))) i=if k≤i∧i<k+m then some (.agg #[.bool (f i).1,.bool (f i).2]) else none:=by
  intro m
  induction m with
  | zero=>intro k;rw [if_neg (by omega)];rfl
  | succ m ih=>
   intro k
   rw [List.range'_succ,List.map_cons,zget]
   by_cases h:i=k
   ·subst h
    rw [if_pos I,if_pos (by omega)]
   ·rw [if_neg (by omega),ih]
    by_cases h2:k+1≤i∧i<k+1+m
    ·rw [if_pos h2,if_pos (by omega)]
    ·rw [if_neg h2,if_neg (by omega)]
 have:=key n 0
 rw [←List.range_eq_range'] at this
 rw [frN,this]
 by_cases h:i<n
 ·rw [if_pos h,if_pos (by omega)]
 ·rw [if_neg h,if_neg (by omega)]
def upd (f:Nat→Bool×Bool) (i:Nat) (v:Bool×Bool):Nat→Bool×Bool:=λ k=>if k=i then v else f k
theorem zDW (f:Nat→Bool×Bool) (v:Bool×Bool) {n i:Nat} (h:i≤n):zput (frN f n) i (.agg #[.bool v.1,.bool v.2])=frN (upd f i v) (max n (i+1)):=by
 have key:∀ (m k:Nat),k≤i→i≤k+m→zput ((List.range' k m).map λ i=>(((i:Nat):Int),(Value.agg #[.bool (f i).1,.bool (f i).2]))) i (.agg #[.bool v.1,.bool v.2]) =
   (List.range' k (max m (i+1 - k))).map λ j=>(((j:Nat):Int),(Value.agg #[.bool (upd f i v j).1,.bool (upd f i v j).2])):=by
  intro m
  induction m with
  | zero=>
   intro k h1 h2
   have:i=k:=by omega
   subst this
   rw [show max 0 (i+1 - i)=1 from by omega]
   simp [zput,upd]
  | succ m ih=>
   intro k h1 h2
   rw [List.range'_succ,List.map_cons,zput]
   by_cases h:i=k
   ·subst h
    rw [if_pos I,show max (m+1) (i+1 - i)=m+1 from by omega,List.range'_succ,List.map_cons]
    refine congr (congrArg _ (by simp [upd])) (List.map_congr_left λ j hj=>?_)
    rw [List.mem_range'_1] at hj
    rw [upd,if_neg (by omega)]
   ·rw [if_neg (by omega),ih (k+1) (by omega) (by omega),show max (m+1) (i+1 - k)=max m (i+1 - (k+1))+1 from by omega,List.range'_succ,List.map_cons]
    refine congr (congrArg _ ?_) I
    rw [upd,if_neg (by omega)]
 have:=key n 0 (by omega) (by omega)
 rw [←List.range_eq_range',Nat.sub_zero,←List.range_eq_range'] at this
 exact this
theorem zz2 {f g:Nat→Bool×Bool} {n:Nat} (h:∀ i,i<n→f i=g i):frN f n=frN g n:=
 List.map_congr_left λ i hi=>by rw [h i (List.mem_range.1 hi)]
end Go.Fld
namespace Go.K
open Go Go.RowKit
def zDo (P:Prop) (R:Res):Res where
 A B w:=P∧R.A B w
 loc B w w' h hA:=⟨hA.1,R.loc B w w' h hA.2⟩
section
variable {c:Cx} {ds:List Deferred} {T:List (Nat×Value)} {H:List Res} {K:Act→World→Prop} {P:Prop} {R:Res}
theorem zz4 (h:P→GK c ds K T (R :: H)):GK c ds K T (zDo P R :: H):=λ a w ha hw=>by
 obtain⟨hb,B,hB,⟨hp,hA⟩,hr⟩:=hw
 exact h hp a w ha ⟨hb,B,hB,hA,hr⟩
theorem zBO (hp:P) (h:GK c ds K T (zDo P R :: H)):GK c ds K T (R :: H):=λ a w ha hw=>by
 obtain⟨hb,B,hB,hA,hr⟩:=hw
 exact h a w ha ⟨hb,B,hB,⟨hp,hA⟩,hr⟩
theorem zyS (h:GK c ds K T (Emp :: H)):GK c ds K T H:=λ a w ha hw=>
 h a w ha ⟨hw.base,λ _=>False,λ _ hk=>hk.elim,trivial,Holds.anti H (λ _ hk=>hk.elim id False.elim) hw.holds⟩
end
section
variable {c:Cx} {ds:List Deferred} {T:List (Nat×Value)} {H:List Res} {d:Option Nat} {ty:TypeId} {ps:String} {af:Array Edge} {g:Option (Nat×Bool)} {x y:Operand} {u v:Value}
theorem zzF {t:TypeId} {vs:List Value} (hx:evo T x=some (.agg vs.toArray)) (hy:evo T y=some u) (hr:∀ w,(Instr.index t (.agg vs.toArray) u).run c.P w=.ok v w):Y c ds H T ⟨d,.index t x y,ty,ps,af,g⟩ v:=
 zcz λ a w ha _=>by
  simp only [execOp,ha.eval hx,ha.eval hy]
  exact zbu (hr w)
theorem zzw {t e:TypeId} {n k o:Nat} {a0:Option Addr} {kd:IntKind} {i:Int} (m:Nat) (ht:AE c.P t e n k) (hx:evo T x=some (epx a0 o)) (hy:evo T y=some (.int kd i)) (hm:i=(m:Int)) (h1:m<n) (ha0:∀ w,Hp c.U c.w0 H w→∃ b off,a0=some ⟨b,off,none⟩) :
  Y c ds H T ⟨d,.indexAddr t x y,ty,ps,af,g⟩ (epx a0 (o+m*k)):=by
 refine⟨λ a w ha hw=>?_⟩
 obtain⟨b,off,rfl⟩:=ha0 w hw
 have hx':evo T x=some (.pointer (some ⟨b,off+o,none⟩)):=by rw [hx];simp [epx,zb2]
 have h:=(zyA (c:=c) (ds:=ds) (H:=H) (d:=d) (ty:=ty) (ps:=ps) (af:=af) (g:=g) m ht hx' hy hm h1).run a w ha hw
 rw [show epx (some ⟨b,off,none⟩) (o+m*k)=.pointer (some ⟨b,off+o+m*k,none⟩) from by simp [epx,zb2,Nat.add_assoc]]
 exact h
theorem zzG {α:Type} [Inhabited α] {t:TypeId} {k k' f:Nat} {z:Value} {a0:Option Addr} {i:Int} {enc:α→List Value} {l:List α} {vs:List Value} (ht:TF c.P t true k' z) (hx:evo T x=some (epx a0 (i.toNat*k+f)))
  (hh:∀ w,Hp c.U c.w0 H w→Has w (zaW a0 k enc l)) (h0:0≤i) (h1:i<(l.length:Int)) (hv:((enc (l.getD i.toNat default)).drop f).take k' = vs) (hl:vs.length=k':=by rfl):Y c ds H T ⟨d,.load t x,ty,ps,af,g⟩ (.agg vs.toArray):=
 zcz λ a w ha hw=>by
  obtain⟨b,off,hab,hc⟩:=zdG (hh w hw) (zeF h0 h1)
  subst hab
  simp only [execOp,ha.eval hx,epx,Option.map_some,zb2]
  refine zbu ?_
  unfold Instr.loadAt
  rw [zal (v:=⟨b,off+(i.toNat*k+f),none⟩) (w':=w) I]
  refine zd0 ht hl (zfA _ _ λ j v hj=>?_)
  rw [←hv] at hj
  have hj2:(enc (l.getD i.toNat default))[f+j]?=some v:=by
   rw [List.getElem?_take] at hj
   split at hj
   ·rwa [List.getElem?_drop] at hj
   ·cases hj
  have:=zdQ _ _ (f+j) v hc hj2
  rwa [show off+(i.toNat*k+f)+j=off+i.toNat*k+(f+j) from by omega]
theorem zyY {o:Oper} (h:Y c ds H T o u) (e:u=v):Y c ds H T o v:=e ▸ h
end
end Go.K
namespace Go.Fld
open Go Go.K Go.Stn Go.Pln
abbrev zy6 (b:Nat):List Value:=[.map (some b)]
theorem zzY:Enc 1 zy6:=⟨λ _=>rfl,λ _=>rfl,by decide⟩
abbrev rowM (z:Nat×List (Bool×Bool)):Res:=MapZ z.1 (frZ z.2)
def prK (c:Crg×Crg) (k:Int):Crg×Crg:=if k≤0 then(default,default) else if k≤1 then(c.1,default) else c
def frK (l:List (Bool×Bool)) (k:Int):List (Int×Value):=if k≤0 then [] else if k≤1 then frN (λ i=>((l.getD i (false,false)).1,false)) l.length else frZ l
def frA (l:List (Bool×Bool)) (n:Nat):List (Int×Value):=frN (λ i=>((l.getD i (false,false)).1,false)) n
def frB2 (l:List (Bool×Bool)) (n:Nat):List (Int×Value):=frN (λ i=>((l.getD i (false,false)).1,if i<n then(l.getD i (false,false)).2 else false)) l.length
theorem zGd {l:List (Bool×Bool)} {n:Nat}:(zget (frA l n) n).getD (.agg #[.bool false,.bool false])=.agg #[.bool false,.bool false]:=by
 unfold frA
 rw [zCq,if_neg (by omega)];rfl
theorem zGe {l:List (Bool×Bool)} {n:Nat} {v:Bool} (hv:v=(l.getD n (false,false)).1):zput (frA l n) n (.agg #[.bool v,.bool false])=frA l (n+1):=by
 unfold frA
 rw [show(Value.agg #[.bool v,.bool false])=.agg #[.bool (v,false).1,.bool (v,false).2] from rfl,zDW _ _ (Nat.le_refl n),Nat.max_eq_right (by omega)]
 refine zz2 λ i hi=>?_
 unfold upd
 by_cases h:i=n
 ·rw [if_pos h,h,hv]
 ·rw [if_neg h]
theorem zGg {l:List (Bool×Bool)} {n:Nat} (h:n<l.length):(zget (frB2 l n) n).getD (.agg #[.bool false,.bool false])=.agg #[.bool (l.getD n (false,false)).1,.bool false]:=by
 unfold frB2
 rw [zCq,if_pos h,if_neg (by omega)];rfl
theorem zGh {l:List (Bool×Bool)} {n:Nat} (h:n<l.length) {u v:Bool} (hu:u=(l.getD n (false,false)).1) (hv:v=(l.getD n (false,false)).2):zput (frB2 l n) n (.agg #[.bool u,.bool v])=frB2 l (n+1):=by
 unfold frB2
 rw [show(Value.agg #[.bool u,.bool v])=.agg #[.bool (u,v).1,.bool (u,v).2] from rfl,zDW _ _ (Nat.le_of_lt h),Nat.max_eq_left (by omega)]
 refine zz2 λ i hi=>?_
 unfold upd
 by_cases h1:i=n
 ·rw [if_pos h1,h1,if_pos (by omega),hu,hv]
 ·rw [if_neg h1]
  show((l.getD i (false,false)).1,if i<n then(l.getD i (false,false)).2 else false)=_
  by_cases h2:i<n
  ·rw [if_pos h2,if_pos (by omega)]
  ·rw [if_neg h2,if_neg (by omega)]
theorem zHJ {l:List (Bool×Bool)}:frA l 0=[]:=rfl
theorem zGc {l:List (Bool×Bool)}:frA l l.length=frK l 1:=by unfold frK;rw [if_neg (by decide),if_pos (by decide)];rfl
theorem zHK {l:List (Bool×Bool)}:frB2 l 0=frK l 1:=by
 unfold frK frB2
 rw [if_neg (by decide),if_pos (by decide)]
 exact zz2 λ i _=>by rw [if_neg (by omega)]
theorem zGf {l:List (Bool×Bool)}:frB2 l l.length=frK l 2:=by
 unfold frK frB2 frZ
 rw [if_neg (by decide),if_neg (by decide)]
 exact zz2 λ i hi=>by rw [if_pos hi]
theorem zHL {l:List (Bool×Bool)}:frK l 2=frZ l:=by unfold frK;rw [if_neg (by decide),if_neg (by decide)]
theorem zHU {c:Crg×Crg}:prK c 0=(default,default):=rfl
theorem zHk {c:Crg×Crg}:prK c 1=(c.1,default):=by unfold prK;rw [if_neg (by decide),if_pos (by decide)]
theorem zHl {c:Crg×Crg}:prK c 2=c:=by unfold prK;rw [if_neg (by decide),if_neg (by decide)]
section
variable {S:List ShC} {V:List WlC} {cs:List ByteArray} {bs:List Bdr} {x:Anm}
theorem zzd (h:zy1 S V cs bs x=false):zym S V cs bs x=false:=by unfold zym;rw [h];rfl
theorem zAf {i:Nat} (hi:i<cs.length) (h:zy0 cs i=false):zym S V cs bs x=false:=by
 unfold zym zBj
 rw [zc9 (by omega) h];simp
theorem zCT {i:Nat} (hi:i<bs.length) (h:zzp S V cs.length (bs.getD i default)=false):zym S V cs bs x=false:=by
 unfold zym
 rw [zc9 (p:=λ i=>zzp S V cs.length (bs.getD i default)) (by omega) h];simp
theorem zCU (h1:zy1 S V cs bs x=true) (h2:∀ j:Nat,j<cs.length→zy0 cs j=true) (h3:∀ j:Nat,j<bs.length→zzp S V cs.length (bs.getD j default)=true):zym S V cs bs x=true:=by
 unfold zym zBj
 rw [h1,zdf.2 h2,zdf.2 h3];rfl
theorem zzq {n:Nat} {b:Bdr} (h:zzp S V n b=true):zb6 S V b.wall=0∧(0≤b.a∧b.a≤(n:Int) - 1)∧(0≤b.b∧b.b≤(n:Int) - 1)∧b.a≠b.b∧(-3000≤b.gA∧b.gA≤3000)∧-3000≤b.gB∧b.gB≤3000:=by
 unfold zzp inZ at h
 simp only [aT,dT,nT,dF] at h
 obtain⟨⟨⟨⟨⟨h1,h2⟩,h3⟩,h4⟩,h5⟩,h6⟩:=h
 exact⟨h1,h2,h3,h4,h5,h6⟩
theorem zBh {n:Nat} {b:Bdr} (h:zzp S V n b=true):Gnd (zar S V b.wall).s (zaN S V b.wall).s b.gA b.gB∧Gnd (zar S V b.wall).s (zaN S V b.wall).s b.gB b.gA:=by
 obtain⟨h1,_,_,_,h5,h6⟩:=zzq h
 obtain⟨_,_,hsp,hWF⟩:=zfu h1
 exact⟨⟨hsp,hWF,h5,h6⟩,⟨hsp,hWF,h6,h5⟩⟩
theorem zzD (h:zym S V cs bs x=true):zc4 S V=true∧(1≤cs.length∧cs.length≤40)∧bs.length≤80∧zBE x=true∧(∀ j:Nat,j<cs.length→zy0 cs j=true)∧∀ j:Nat,j<bs.length→zzp S V cs.length (bs.getD j default)=true:=by
 unfold zym zy1 zBj inZ at h
 simp only [aT,dT,nT,dF,zdf] at h
 obtain⟨⟨⟨⟨⟨h1,h2⟩,h3⟩,h4⟩,h5⟩,h6⟩:=h
 exact⟨h1,by omega,by omega,h4,h5,h6⟩
end
end Go.Fld
namespace Go.Proofs.YteepmmghanbllaaGreatDoor
open Go.K Go.Stn Go.Pln Go.Fld Go.RowKit
theorem tf4:TF Tryz.prog 4 false 1 (.bool false):=tK
theorem tf41:TF Tryz.prog 41 true 5 (.agg #[O 0,O 0,O 0,O 0,O 0]):=tK
theorem zAl:TF Tryz.prog 179 true 27 (.agg #[.string ⟨#[]⟩,.string ⟨#[]⟩,O 0,C none 0 0,.string ⟨#[]⟩,O 0,O 0,O 0,O 0,C none 0 0,O 0,O 0,O 0,O 0,O 0,O 0,O 0,.int .u8 0,O 0,O 0,O 0,O 0,O 0,O 0,.bool false,O 0,O 0]):=tK
theorem znb:FO Tryz.prog 41 0 0:=fK
theorem znc:FO Tryz.prog 41 1 1:=fK
theorem zpv:FO Tryz.prog 41 2 2:=fK
theorem zep:FO Tryz.prog 41 3 3:=fK
theorem znd:FO Tryz.prog 41 4 4:=fK
theorem zF5:FO Tryz.prog 179 0 0:=fK
theorem zBw:FO Tryz.prog 179 1 4:=fK
theorem zF6:FO Tryz.prog 179 2 24:=fK
theorem zCp:FO Tryz.prog 179 3 25:=fK
theorem zF7:FO Tryz.prog 179 4 26:=fK
theorem en79:En Tryz.prog 79:=eK Tryz.func79
theorem en91:En Tryz.prog 91:=eK Tryz.func91
theorem en92:En Tryz.prog 92:=eK Tryz.func92
theorem zHz:En Tryz.prog 107:=eK Tryz.func107
theorem zw3:En Tryz.prog 110:=eK Tryz.func110
theorem ztG:En Tryz.prog 113:=eK Tryz.func113
theorem zyR (n lo hi:Int) (w:World)  :
  Calls Tryz.prog 58 #[O n,O lo,O hi] w (Pure (.bool (inZ n lo hi)) w):=by
 refine zan (vs:=[_,_,_]) Tryz.func58 I I (bL I) (gS (gA I (gN [0,1,2,6] I (zac (gZ 9 (ph_y (zaf I) (ph_y (zaf I) (ph_y (zfx I I) (ph_y (zaf I) (zaH I I (λ jj=>by(try rw [jj]);exact zaf I) (zaH I I (λ jj=>by(try rw [jj]);exact zaf I) (zaH I I (λ jj=>by(try rw [jj]);exact zeT I I) (ph_y (zaX I I I) (ph_y (zad I) (gN [6] I (zaw (zay (zaC I (zau I)) ?_)))))))))))))))))
 rfl
theorem zHe (r:Int) (w:World)  :
  Calls Tryz.prog 107 #[.int .i32 r] w (Pure (.bool (oddR r)) w):=by
 refine zan (vs:=[_]) Tryz.func107 I I (bL I) (gS (gA I (gN [0,2] I (zac (gZ 17 (ph_y (zaf I) (ph_y (zfx I I) (ph_y (zaf I) (zaH I I (λ jj=>by(try rw [jj]);exact zaf I) (zaH I I (λ jj=>by(try rw [jj]);exact zeT I I) (ph_y (zaX I I I) (ph_y (zbR I) (ph_y (zaf I) (zaH I I (λ jj=>by(try rw [jj]);exact zaf I) (zaH I I (λ jj=>by(try rw [jj]);exact zfx I I) (zaH I I (λ jj=>by(try rw [jj]);exact zaf I) (zdr I I (λ jj=>by(try rw [jj]);exact zaf I) (zdr I I (λ jj=>by(try rw [jj]);exact zeT I I) (zaH I I (λ jj=>by(try rw [jj]);exact zaX I I I) (zaH I I (λ jj=>by(try rw [jj]);exact zbR I) (ph_y (zaX I I I) (ph_y (zad I) (gN [2] I (zaw (zay (zaC I (zau I)) ?_)))))))))))))))))))))))))
 rfl
theorem zEN (s:ByteArray) (w:World)  :
  Calls Tryz.prog 76 #[.string s] w (Pure (.bool (zgx s)) w):=by
 refine zan (vs:=[_]) Tryz.func76 I I (bL I) (gS (gA I (gN [0,2] I (gS (gA I (gN [0,2,3] I (zac (gZ 14 (ph_y (zaf I) (ph_y (ziV I I) (ph_y (zaf I) (zaH I I (λ jj=>by(try rw [jj]);exact zaf I) (zaH I I (λ jj=>by(try rw [jj]);exact zeO (Tryz.underlying9) I) (zaH I I (λ jj=>by(try rw [jj]);exact zeT I I) (ph_y (zaX I I I) (ph_y (zaf I) (zaH I I (λ jj=>by(try rw [jj]);exact zaf I) (zaH I I (λ jj=>by(try rw [jj]);exact zaf I) (zaH I I (λ jj=>by(try rw [jj]);exact zaJ (v:=.bool (decide (0≤zcj oddR s 0))) zF1 I (λ w hw=>ziD s oddR _ [] w (λ _=>True) (λ _ _=>trivial) zHz (λ r w _=>zHe r w))) (zaH I I (λ jj=>by(try rw [jj]);exact zbR I) (ph_y (zaX I I I) (ph_y (zad I) (gN [2] I (zaw (zay (zaC I (zau I)) ?_)))))))))))))))))))))))))
 exact congrArg _ (zqb s)
theorem zFw (b:yO) (bcap:Nat) (v:Wll) (a:yO) (cap:Nat) (s:Sht) (shut:Bool) (g h:Int) (w:World) (_hl:yan w a s) (_hss:zaP s.heights.length) (_hv:yaq w b v) (hG:Gnd s v g h) :
  Calls Tryz.prog 91 #[.agg #[.string v.name,.string v.sheet,O v.length,C b v.opens.length bcap,.string s.name,O s.base,O s.batter,O s.height,O s.skin,C a s.heights.length cap,O s.least,O s.lap,O s.run,O s.every,O s.at_,O s.footing,O s.spread,.int .u8 s.cope,O s.tall,O s.short,O s.thick,O s.low,O s.high,O s.rood,.bool shut,O g,O h]] w (Pure (O (zzc s g)) w):=by
 obtain⟨gs1,gs2,gs3,gs4⟩:=hG.nums
 have gg:=hG.g
 have gh:=hG.h
 refine zan (vs:=[_]) Tryz.func91 I I (bL I) (gS (zaG I I (za3 (vs:=[_,_,_,_,_,_,_,_,_,_,_,_,_,_,_,_,_,_,_,_,_,_,_,_,_,_,_]) I I) λ b1=>(gA I (gN [1,2] I (gS (gQ (zab zBw I) (gQ (zab zyM I) (gQ (zah 0 tf3 I I I) (gQ (zab zBw I) (gQ (zab zzh I) (gQ (zah 0 tf3 I I I) (gQ (zaY I I) (gQ (zab zCp I) (gQ (zah 0 tf3 I I I) (gQ (zfV I I) (gA I (gN [2] I (zaw (zay (zaC I (zau I)) ?_)))))))))))))))))))
 rfl
theorem zEp (b:yO) (bcap:Nat) (v:Wll) (a:yO) (cap:Nat) (s:Sht) (shut:Bool) (g h z:Int) (w:World) (hl:yan w a s) (hss:zaP s.heights.length) (_hv:yaq w b v) (hG:Gnd s v g h) :
  Calls Tryz.prog 92 #[.agg #[.string v.name,.string v.sheet,O v.length,C b v.opens.length bcap,.string s.name,O s.base,O s.batter,O s.height,O s.skin,C a s.heights.length cap,O s.least,O s.lap,O s.run,O s.every,O s.at_,O s.footing,O s.spread,.int .u8 s.cope,O s.tall,O s.short,O s.thick,O s.low,O s.high,O s.rood,.bool shut,O g,O h],O z] w (Pure (O (zy8 s z)) w):=by
 obtain⟨gs1,gs2,gs3,gs4⟩:=hG.nums
 have gg:=hG.g
 have gh:=hG.h
 refine zan (vs:=[_,_]) Tryz.func92 I I (bL I) (gS (zaG I I (za3 (vs:=[_,_,_,_,_,_,_,_,_,_,_,_,_,_,_,_,_,_,_,_,_,_,_,_,_,_,_]) I I) λ b2=>(gA I (gN [1,2,4] I (gS (gQ (zab zBw I) (gQ (zat 0 zyq I I (vs:=[_,_,_,_,_,_,_,_,_,_,_,_,_,_,_,_,_,_,_,_]) I I) (gM I (gQ (zaJ ztG I (λ w hw=>ztc _ _ s z w (rH hl hw) hss)) (gM I (gQ (zaB I I) (gQ (zaB I I) (gA I (gA I (gN [4,5] I (gS (gM I (gA I (gN [4] I (zaw (zay (zaC I (zau I)) ?_)))))))))))))))))))))
 rfl
abbrev zzz1 (x:Anm):Value:=.agg #[.int .i64 x.wide,.int .i64 x.high,.int .i64 x.step,.int .i64 x.leap,.int .i64 x.reach]
theorem by_c (b:yO) (bcap:Nat) (v:Wll) (a:yO) (cap:Nat) (s:Sht) (shut:Bool) (g h:Int) (o:Opn) (x:Anm) (w:World) (hl:yan w a s) (hss:zaP s.heights.length) (hv:yaq w b v) (hG:Gnd s v g h) (ho:zn8 v.length s.height o) :
  Calls Tryz.prog 79 #[.agg #[.string v.name,.string v.sheet,O v.length,C b v.opens.length bcap,.string s.name,O s.base,O s.batter,O s.height,O s.skin,C a s.heights.length cap,O s.least,O s.lap,O s.run,O s.every,O s.at_,O s.footing,O s.spread,.int .u8 s.cope,O s.tall,O s.short,O s.thick,O s.low,O s.high,O s.rood,.bool shut,O g,O h],.agg #[.int .u8 o.kind,O o.at_,O o.width,O o.frm,O o.high],zzz1 x] w (Pure (.tuple #[O (byG s shut g h o x).1,.bool (byG s shut g h o x).2]) w):=by
 obtain⟨gs1,gs2,gs3,gs4⟩:=hG.nums
 have gg:=hG.g
 have gh:=hG.h
 have of_:=ho.f
 have oh_:=ho.h
 refine zan (vs:=[_,_,_]) Tryz.func79 I I (bL I) (gS (zaG I I (za3 (vs:=[_,_,_,_,_,_,_,_,_,_,_,_,_,_,_,_,_,_,_,_,_,_,_,_,_,_,_]) I I) λ b3=>(zaG I I (za3 (vs:=[_,_,_,_,_]) I I) λ b4=>(zaG I I (za3 (vs:=[_,_,_,_,_]) I I) λ b5=>(gA I (gA I (gN [3,4,5,6,7] I (gS (gQ (zab zyW I) (gQ (zah 1 tf3 I I I) (gQ (zab zCp I) (gQ (zah 2 tf3 I I I) (gQ (zfV I I) (gA I (gN [3,4,5,6,7,8] I (zac (gS (gQ (zab znb I) (gQ (zah 0 tf3 I I I) (gQ (zab zAc I) (gQ (zah 1 tf3 I I I) (gQ (zc6 I I) (gN [3,4,5,6,7,8,19] I (zap I (λ hc19=>?_) (λ hc19=>?_)))))))))))))))))))))))))
 ·have hc19:=oT hc19
  have eB:(byG s shut g h o x)=(0,false):=if_pos hc19
  refine gS (gA I (gA I (gN [3,4,5,6,7,8] I (zaw (zay (zc2 I (zau I) (zau I)) ?_)))))
  rw [eB] <;> rfl
 ·have hc19:=oD hc19
  refine zaq (zac (gS (gQ (zab zAI I) (gQ (zah 1 tf5 I I I) (gN [3,4,5,6,7,8,21] I (zas (gS (gQ (zbL I I) (gA I (gN [3,4,5,6,7,8,21,22] I (zap I (λ hc22=>?_) (λ hc22=>?_))))))))))))
  ·have hc22:=oT hc22
   have eB:(byG s shut g h o x)=(1,!shut):=(if_neg hc19).trans (if_pos hc22)
   refine zac (gZ 5 (ph_y (zab zF6 I) (ph_y (zah 2 tf4 I I I) (ph_y (zbR I) (ph_y (zad I) (ph_y (zad I) (gN [3,4,5,6,7,8] I (zaw (zay (zc2 I (zau I) (zau I)) ?_)))))))))
   rw [eB] <;> rfl
  ·have hc22:=oD hc22
   refine gS (gQ (zbL I I) (gA I (gN [3,4,5,6,7,8,27] I (zap I (λ hc27=>?_) (λ hc27=>?_)))))
   ·have hc27:=oT hc27
    have eB:(byG s shut g h o x)=(max (o.frm - g) 0+1,decide (o.frm - g≤x.leap)&&decide (zy8 s o.frm≤x.reach)):=(if_neg hc19).trans ((if_neg hc22).trans (if_pos hc27))
    refine zac (gZ 18 (ph_y (zaf I) (ph_y (zws I I) (ph_y (zaY I I) (ph_y (zaf I) (ph_y (zab zep I) (ph_y (zah 0 tf3 I I I) (ph_y (zeT I I) (ph_y (zaf I) (zaH I I (λ jj=>by(try rw [jj]);exact zat 2 zAl I I (vs:=[_,_,_,_,_,_,_,_,_,_,_,_,_,_,_,_,_,_,_,_,_,_,_,_,_,_,_]) I I) (zaH I I (λ jj=>by(try rw [jj]);exact zab zyW I) (zaH I I (λ jj=>by(try rw [jj]);exact zah 1 tf3 I I I) (zaH I I (λ jj=>by(try rw [jj]);exact zaJ (v:=O (zy8 s o.frm)) en92 I (λ w hw=>zEp _ _ v _ _ s shut g h o.frm w (rH hl hw) hss (rH hv hw) hG)) (zaH I I (λ jj=>by(try rw [jj]);exact zab znd I) (zaH I I (λ jj=>by(try rw [jj]);exact zah 0 tf3 I I I) (zaH I I (λ jj=>by(try rw [jj]);exact zeT I I) (ph_y (zaX I I I) (ph_y (zad I) (ph_y (zad I) (gN [3,4,5,6,7,8] I (zaw (zay (zc2 I (zau I) (zau I)) ?_))))))))))))))))))))))
    rw [eB] <;> rfl
   ·have hc27:=oD hc27
    have eB:(byG s shut g h o x)=(max (o.frm - g) 0+1,decide (o.frm - g≤x.step)&&decide (x.high≤o.frm+o.high - max (max o.frm g) h)):=(if_neg hc19).trans ((if_neg hc22).trans (if_neg hc27))
    refine zaq (gS (gQ (zab zyW I) (gQ (zah 1 tf3 I I I) (gQ (zab zzO I) (gQ (zah 1 tf3 I I I) (gQ (zaY I I) (gQ (zab zyW I) (gQ (zah 1 tf3 I I I) (gQ (zab zCp I) (gQ (zah 2 tf3 I I I) (gQ (zab zF7 I) (gQ (zah 2 tf3 I I I) (gQ (zHt I I I) (gQ (zfV I I) (gA I (gN [5,6,7,8,9] I (zac (gZ 15 (ph_y (zaf I) (ph_y (zws I I) (ph_y (zaY I I) (ph_y (zaf I) (ph_y (zab zpv I) (ph_y (zah 0 tf3 I I I) (ph_y (zeT I I) (ph_y (zaf I) (zaH I I (λ jj=>by(try rw [jj]);exact zaf I) (zaH I I (λ jj=>by(try rw [jj]);exact zab znc I) (zaH I I (λ jj=>by(try rw [jj]);exact zah 0 tf3 I I I) (zaH I I (λ jj=>by(try rw [jj]);exact zfx I I) (ph_y (zaX I I I) (ph_y (zad I) (ph_y (zad I) (gN [6,7] I (zaw (zay (zc2 I (zau I) (zau I)) ?_))))))))))))))))))))))))))))))))))))
    rw [eB] <;> rfl
theorem zFV {r:Int×Int} {n c:Int} (h:(decide (r.1 = -2)||decide (c<r.2))=true):btr r n c=(n,c):=if_pos h
theorem zG8 {r:Int×Int} {n c:Int} (h:(decide (r.1 = -2)||decide (c<r.2))=false):btr r n c=r:=if_neg (by rw [h];exact fT)
theorem zCE (p q:Nat) (r:Int×Int) (n c:Int) (w:World) (B:Nat→Prop) (hB:yak B w) (hA:(SepR [Box p [O r.1] 3,Box q [O r.2] 3]).A B w)  :
  Calls Tryz.prog 110 #[O n,O c,Z p,Z q] w (zho (λ _:Unit=>.tuple #[]) (λ _=>SepR [Box p [O (btr r n c).1] 3,Box q [O (btr r n c).2] 3]) (λ _=>True) B w):=by
 refine zby hB hA (vs:=[_,_,_,_]) Tryz.func110 I I (bL I) (zbP (zac (gZ 7 (ph_y (zah 0 tf3 I I I) (ph_y (zbL I I) (ph_y (zaf I) (zaz I I (λ jj=>by(try rw [jj]);exact zaf I) (zaz I I (λ jj=>by(try rw [jj]);exact zah 1 tf3 I I I) (zaz I I (λ jj=>by(try rw [jj]);exact zbw I I) (ph_y (zaR I I I) (gN [0,1,2,3,12] I (zap I (λ hc12=>?_) (λ hc12=>?_)))))))))))))
 ·refine zaa (gM I (gM I (zaA 0 tf3 I I (vs:=[_]) I I I I I (zaA 1 tf3 I I (vs:=[_]) I I I I I (zag (zae (T':=[]) trivial (zao 1 I (zao 1 I (zbT 2 ?_)))))))))
  exact zd9 () 0 (zcN I) I (by rw [zFV hc12];rfl) trivial
 ·refine zaq (zao 1 I (zao 1 I (zbT 2 ?_)))
  exact zd9 () 0 (zcN I) I (by rw [zG8 hc12];rfl) trivial
abbrev zzz2 (x:Anm):List Value:=[.int .i64 x.wide,.int .i64 x.high,.int .i64 x.step,.int .i64 x.leap,.int .i64 x.reach]
theorem zFo (b:yO) (bcap:Nat) (v:Wll) (a:yO) (cap:Nat) (s:Sht) (shut:Bool) (g h:Int) (x:Anm) (w:World) (hl:yan w a s) (hss:zaP s.heights.length) (hv:yaq w b v) (hG:Gnd s v g h) :
  Calls Tryz.prog 78 #[.agg #[.string v.name,.string v.sheet,O v.length,C b v.opens.length bcap,.string s.name,O s.base,O s.batter,O s.height,O s.skin,C a s.heights.length cap,O s.least,O s.lap,O s.run,O s.every,O s.at_,O s.footing,O s.spread,.int .u8 s.cope,O s.tall,O s.short,O s.thick,O s.low,O s.high,O s.rood,.bool shut,O g,O h],zzz1 x] w (Pure (.tuple #[O (zzX s shut g h v.opens x).1,O (zzX s shut g h v.opens x).2]) w):=by
 obtain⟨gs1,gs2,gs3,gs4⟩:=hG.nums
 have gg:=hG.g
 have gh:=hG.h
 have on:=hG.wf.num
 have hov:=zGy hG
 refine zan (vs:=[_,_]) Tryz.func78 I I (bL I) (gS (zaG I I (za3 (vs:=[_,_,_,_,_,_,_,_,_,_,_,_,_,_,_,_,_,_,_,_,_,_,_,_,_,_,_]) I I) λ b2=>(zaG I I (za3 (vs:=[_,_,_,_,_]) I I) λ b3=>(zaG I I (zaL tf3 (zs:=[_]) I) λ b4=>(zaG I I (zaL tf3 (zs:=[_]) I) λ b5=>(gN [2,3,4,5] I (gS (zaA 1 tf3 I I (vs:=[_]) I I I I I (gN [2,3,4,5] I (gS (gQ (zbO («as»:=[]) (bs:=[_,_]) I I) (gA I (gN [2,3,4,5,6] I (zac (gS (gQ (zab zF5 I) (gQ (zab zyL I) (gQ (zah 3 zAi I I I) (gQ (zaV (Tryz.underlying114) I) (gM I (gN [2,3,4,5,6,14,15,16] I (zas ?_))))))))))))))))))))))
 refine zbf (X:=Int) (λ(i:Int)=>[(2,Z b2),(3,Z b3),(4,Z b4),(5,Z b5),(6,.func (.func 110) #[] #[Z b4,Z b5]),(14,C b v.opens.length bcap),(15,O (v.opens.length:Int)),(16,O i)]) (λ(i:Int)=>[Box b5 [O ((zyB s shut g h v.opens x i.toNat).2)] 3,Box b4 [O ((zyB s shut g h v.opens x i.toNat).1)] 3,Box b3 (zzz2 x) 41,Box b2 (lV v b bcap s a cap shut g h) 179]) (λ(i:Int)=>(0≤i∧i≤v.opens.length)) (λ(i:Int)=>(v.opens.length - i).toNat) 0 (sB I) I ?_ ?_
 ·exact⟨by omega,by omega⟩
 ·rintro i hI
  obtain⟨g0,g1⟩:=hI
  refine gS (gQ (zbw I I) (gN [2,3,4,5,6,14,15,16,17] I (zac (zap I (λ hc17=>?_) (λ hc17=>?_)))))
  ·simp only [dT] at hc17
   refine zaq (zac (zas (gS (gM I (gQ (zaE zCz I I (λ _=>rH hv)) (gQ (zbv (vs:=[_,_,_,_,_]) zy2 I (λ _=>rH hv) (by omega) (by omega) I) (zaG I I (zaL zy2 (zs:=[_,_,_,_,_]) I) λ b8=>(gA I (zaA 0 zy2 I I (vs:=[_,_,_,_,_]) I I I I I (gN [2,3,4,5,6,7,8,14,15,16] I (gS (gQ (zat 4 zAl I I (vs:=[_,_,_,_,_,_,_,_,_,_,_,_,_,_,_,_,_,_,_,_,_,_,_,_,_,_,_]) I I) (gQ (zat 0 zy2 I I (vs:=[_,_,_,_,_]) I I) (gQ (zat 3 tf41 I I (vs:=[_,_,_,_,_]) I I) (gQ (zaJ en79 I (λ w hw=>by_c _ _ v _ _ s shut g h (v.opens.getD i.toNat default) x w (rH hl hw) hss (rH hv hw) hG (hG.wf.fit _ (za0 (by omega))))) (gM I (gQ (zaB I I) (gQ (zaB I I) (gA I (gA I (gN [2,3,4,5,6,7,9,10,14,15,16] I (gS (gM I (gN [2,3,4,5,6,7,9,14,15,16,28] I (zap I (λ hc28=>?_) (λ hc28=>?_))))))))))))))))))))))))))
   ·have hbn:(zyB s shut g h v.opens x (i+1).toNat)=btr (zyB s shut g h v.opens x i.toNat) i (byG s shut g h (v.opens.getD i.toNat default) x).1:=by rw [show(i+1).toNat=i.toNat+1 from by omega,zyB,if_pos hc28,tN g0]
    refine zao 1 I (zao 2 I (zbT 2 (zaa (gM I (gM I (gM I (zkZ (fs:=[]) (cap:=[_,_]) 0 zw3 I I I I (λ w B hF=>zCE _ _ _ _ _ w B (λ k hk=>(hF.own k hk).2) hF.A) λ u32 hq32=>(gN [2,3,4,5,6,14,15,16] I (zbP (zao 1 I (za2 (R':=Box b4 [O ((zyB s shut g h v.opens x (i+1).toNat).1)] 3) 1 I (λ B w hA=>by rw [hbn];exact hA) (za2 (R':=Box b5 [O ((zyB s shut g h v.opens x (i+1).toNat).2)] 3) 0 I (λ B w hA=>by rw [hbn];exact hA) (zaa (gQ (zaY I I) (gM I (gN [2,3,4,5,6,14,15,16] I (zaK 2 I ?_)))))))))))))))))
    exact za1 (i+1) (sB I) I ⟨by omega,by omega⟩ (by omega)
   ·have hbn:(zyB s shut g h v.opens x (i+1).toNat)=(zyB s shut g h v.opens x i.toNat):=by rw [show(i+1).toNat=i.toNat+1 from by omega,zyB,if_neg (by rw [hc28];exact fT)]
    refine za2 (R':=Box b4 [O ((zyB s shut g h v.opens x (i+1).toNat).1)] 3) 2 I (λ B w hA=>by rw [hbn];exact hA) (za2 (R':=Box b5 [O ((zyB s shut g h v.opens x (i+1).toNat).2)] 3) 1 I (λ B w hA=>by rw [hbn];exact hA) (zaq (zaa (gQ (zaY I I) (gM I (gN [2,3,4,5,6,14,15,16] I (zaK 0 I ?_)))))))
    exact za1 (i+1) (sB I) I ⟨by omega,by omega⟩ (by omega)
  ·simp only [dF] at hc17
   refine za8 I (zac (zac (gZ 15 (ph_y (zat 3 zAl I I (vs:=[_,_,_,_,_,_,_,_,_,_,_,_,_,_,_,_,_,_,_,_,_,_,_,_,_,_,_]) I I) (ph_y (zaJ en91 I (λ w hw=>zFw _ _ v _ _ s shut g h w (rH hl hw) hss (rH hv hw) hG)) (ph_y (zab zep I) (ph_y (zah 2 tf3 I I I) (ph_y (zeT I I) (ph_y (zaf I) (zaH I I (λ jj=>by(try rw [jj]);exact zat 3 zAl I I (vs:=[_,_,_,_,_,_,_,_,_,_,_,_,_,_,_,_,_,_,_,_,_,_,_,_,_,_,_]) I I) (zaH I I (λ jj=>by(try rw [jj]);exact zab zBw I) (zaH I I (λ jj=>by(try rw [jj]);exact zab zyM I) (zaH I I (λ jj=>by(try rw [jj]);exact zah 3 tf3 I I I) (zaH I I (λ jj=>by(try rw [jj]);exact zaJ (v:=O (zy8 s s.height)) en92 I (λ w hw=>zEp _ _ v _ _ s shut g h s.height w (rH hl hw) hss (rH hv hw) hG)) (zaH I I (λ jj=>by(try rw [jj]);exact zab znd I) (zaH I I (λ jj=>by(try rw [jj]);exact zah 2 tf3 I I I) (zaH I I (λ jj=>by(try rw [jj]);exact zeT I I) (ph_y (zaX I I I) (gN [2,4,5,6,48] I (zap I (λ hc48=>?_) (λ hc48=>?_)))))))))))))))))))))
   ·have hbg:(zzX s shut g h v.opens x)=btr (zyB s shut g h v.opens x v.opens.length) (-1) (max (zzc s g) 0+1):=if_pos hc48
    refine zao 1 I (zbT 2 (zaa (gM I (gQ (zat 2 zAl I I (vs:=[_,_,_,_,_,_,_,_,_,_,_,_,_,_,_,_,_,_,_,_,_,_,_,_,_,_,_]) I I) (gQ (zaJ en91 I (λ w hw=>zFw _ _ v _ _ s shut g h w (rH hl hw) hss (rH hv hw) hG)) (gQ (zws I I) (gQ (zaY I I) (zkZ (fs:=[]) (cap:=[_,_]) 0 zw3 I I I I (λ w B hF=>zCE _ _ _ _ _ w B (λ k hk=>(hF.own k hk).2) hF.A) λ u54 hq54=>(gN [4,5] I (zbP (zao 1 I (zac (zao 1 I (zCs [_,_] (ch []) 1000 4 [0,0,1,7] [(0,1000),(1,1001)] I (λ _=>mixed) (by kernel_rfl) (zjK _ trivial) (zBb (R:=λ ρ=>Box b4 [O ((btr (zyB s shut g h v.opens x i.toNat) (-1) ((max (zzc s g) 0)+1)).1)] 3) 1000 I I (by kernel_rfl) (λ _=>by kernel_rfl) (λ ρ=>zah 0 tf3 I I I) (λ ρ ρ' h=>by rfl) (zBb (R:=λ ρ=>Box b5 [O ((btr (zyB s shut g h v.opens x i.toNat) (-1) ((max (zzc s g) 0)+1)).2)] 3) 1001 I I (by kernel_rfl) (λ _=>by kernel_rfl) (λ ρ=>zah 0 tf3 I I I) (λ ρ ρ' h=>by rfl) ?_))))))))))))))))
    refine zBT (R:=λ ρ=>Box b4 [O ((btr (zyB s shut g h v.opens x i.toNat) (-1) ((max (zzc s g) 0)+1)).1)] 3) (A:=λ ρ=>Box b4 [O ((btr (zyB s shut g h v.opens x i.toNat) (-1) ((max (zzc s g) 0)+1)).1)] 3) 1000 I (by kernel_rfl) (by kernel_rfl) (λ _=>by kernel_rfl) (λ ρ=>zex tf3 I I (vs:=[_]) I I I I I) (λ ρ ρ' h=>by rfl) (zBT (R:=λ ρ=>Box b5 [O ((btr (zyB s shut g h v.opens x i.toNat) (-1) ((max (zzc s g) 0)+1)).2)] 3) (A:=λ ρ=>Box b5 [O ((btr (zyB s shut g h v.opens x i.toNat) (-1) ((max (zzc s g) 0)+1)).2)] 3) 1001 I (by kernel_rfl) (by kernel_rfl) (λ _=>by kernel_rfl) (λ ρ=>zex tf3 I I (vs:=[_]) I I I I I) (λ ρ ρ' h=>by rfl) (λ ρ=>zag (zpT (T':=[(4,Z b4),(5,Z b5)]) (H':=[Box b4 [O ((btr (zyB s shut g h v.opens x i.toNat) (-1) ((max (zzc s g) 0)+1)).1)] 3,Box b5 [O ((btr (zyB s shut g h v.opens x i.toNat) (-1) ((max (zzc s g) 0)+1)).2)] 3,Box b3 (zzz2 x) 41,Box b2 (lV v b bcap s a cap shut g h) 179]) ⟨I,I,trivial⟩ rfl (zaw (zay (zc2 I (zcy (i:=0) tf3 I I I) (zcy (i:=1) tf3 I I I)) ?_)))))
    rw [hbg,show v.opens.length=i.toNat from by omega]
   ·have hbg:(zzX s shut g h v.opens x)=(zyB s shut g h v.opens x v.opens.length):=if_neg (by rw [show hopG s g x=_ from hc48];exact fT)
    refine zaq (zac (zao 1 I (zCs [_,_] (ch []) 1000 4 [0,0,1,7] [(0,1000),(1,1001)] I (λ _=>mixed) (by kernel_rfl) (zjK _ trivial) (zBb (R:=λ ρ=>Box b4 [O ((zyB s shut g h v.opens x i.toNat).1)] 3) 1000 I I (by kernel_rfl) (λ _=>by kernel_rfl) (λ ρ=>zah 0 tf3 I I I) (λ ρ ρ' h=>by rfl) (zBb (R:=λ ρ=>Box b5 [O ((zyB s shut g h v.opens x i.toNat).2)] 3) 1001 I I (by kernel_rfl) (λ _=>by kernel_rfl) (λ ρ=>zah 0 tf3 I I I) (λ ρ ρ' h=>by rfl) (zBT (R:=λ ρ=>Box b4 [O ((zyB s shut g h v.opens x i.toNat).1)] 3) (A:=λ ρ=>Box b4 [O ((zyB s shut g h v.opens x i.toNat).1)] 3) 1000 I (by kernel_rfl) (by kernel_rfl) (λ _=>by kernel_rfl) (λ ρ=>zex tf3 I I (vs:=[_]) I I I I I) (λ ρ ρ' h=>by rfl) (zBT (R:=λ ρ=>Box b5 [O ((zyB s shut g h v.opens x i.toNat).2)] 3) (A:=λ ρ=>Box b5 [O ((zyB s shut g h v.opens x i.toNat).2)] 3) 1001 I (by kernel_rfl) (by kernel_rfl) (λ _=>by kernel_rfl) (λ ρ=>zex tf3 I I (vs:=[_]) I I I I I) (λ ρ ρ' h=>by rfl) ?_)))))))
    refine λ ρ=>zag (zpT (T':=[(4,Z b4),(5,Z b5)]) (H':=[Box b4 [O ((zyB s shut g h v.opens x i.toNat).1)] 3,Box b5 [O ((zyB s shut g h v.opens x i.toNat).2)] 3,Box b3 (zzz2 x) 41,Box b2 (lV v b bcap s a cap shut g h) 179]) ⟨I,I,trivial⟩ rfl (zaw (zay (zc2 I (zcy (i:=0) tf3 I I I) (zcy (i:=1) tf3 I I I)) ?_)))
    rw [hbg,show v.opens.length=i.toNat from by omega]
theorem en58:En Tryz.prog 58:=eK Tryz.func58
theorem zDg {α:Type} {l:List α} {n:Nat} (h:zaP l.length):zaP (l.take n).length:=by unfold zaP at *;rw [List.length_take];omega
theorem zEU (a:yO) (cap:Nat) (l:List ByteArray) (s:ByteArray) (w:World) (hl:Has w (zaW a 1 encS l)) (hs:zaP l.length) :
  Calls Tryz.prog 109 #[C a l.length cap,.string s] w (Pure (O (zbJ (λ z:ByteArray=>s.toList == z.toList) l)) w):=by
 refine zan (vs:=[_,_]) Tryz.func109 I I (bL I) (gS (gA I (gN [0,1,4] I (zac (gS (gM I (gQ (zaV (Tryz.underlying26) I) (gM I (gN [0,1,4,7,8] I (zas (zbf (X:=Int) (λ(i:Int)=>[(0,C a l.length cap),(1,.string s),(4,O 0),(7,O (l.length:Int)),(8,O i)]) (λ(i:Int)=>[]) (λ(i:Int)=>(0≤i∧i≤l.length∧∀ j:Nat,(j:Int)<i→(s.toList == (l.getD j default).toList)=false)) (λ(i:Int)=>(l.length - i).toNat) 0 (sB I) I ?_ ?_)))))))))))
 ·exact⟨by omega,by omega,λ j hj=>by omega⟩
 ·rintro i hI
  obtain⟨g0,g1,g2⟩:=hI
  refine gS (gQ (zbw I I) (gN [0,1,4,7,8,9] I (zac (zap I (λ hc9=>?_) (λ hc9=>?_)))))
  ·simp only [dT] at hc9
   refine zaq (zac (zas (gS (gM I (gA I (gN [0,1,4,5,7,8] I (gS (gM I (gM I (gM I (gQ (zaE se26 I I (λ _=>rH hl)) (gQ (zcE tf9 I (λ _=>rH hl) (by omega) (by omega) I) (gQ (zge I I) (gN [0,1,4,5,7,8,16] I (zap I (λ hc16=>?_) (λ hc16=>?_))))))))))))))))
   ·refine gS (gM I (gA I (gN [0,1,4,7,8] I (zaw (zay (zaC I (zau I)) ?_)))))
    exact congrArg (λ n=>Value.int .i64 n) (zcs (p:=(λ z:ByteArray=>s.toList == z.toList)) g0 (by omega) g2 hc16).symm
   ·refine zaq (zaa (gQ (zaY I I) (gM I (gN [0,1,4,7,8] I ?_))))
    exact za1 _ (sB I) I ⟨by omega,by omega,λ j hj=>if h:(j:Int)<i then g2 j h else(by rw [show j=i.toNat from by omega];exact hc16)⟩ (by omega)
  ·simp only [dF] at hc9
   refine za8 I (gS (gA I (gN [4] I (zaw (zay (zaC I (zau I)) ?_)))))
   exact congrArg (λ n=>Value.int .i64 n) (zck (p:=(λ z:ByteArray=>s.toList == z.toList)) (λ j hj=>g2 j (by omega))).symm
theorem zB8 (a:yO) (cap:Nat) (l:List ByteArray) (s:ByteArray) (w:World) (hl:Has w (zaW a 1 encS l)) (hs:zaP l.length) :
  Calls Tryz.prog 77 #[C a l.length cap,.string s] w (Pure (.bool (hasS l s)) w):=by
 refine zan (vs:=[_,_]) Tryz.func77 I I (bL I) (gS (gA I (gN [0,1,4] I (gS (gM I (gM I (gQ (zaJ zw2 I (λ w hw=>zEU _ _ l s w (rH hl hw) (by assumption))) (gQ (zfx I I) (gA I (gN [4] I (zaw (zay (zaC I (zau I)) ?_))))))))))))
 rw [ze9];rfl
theorem zFJ (n:Int) (w:World)  :
  Calls Tryz.prog 74 #[O n] w (Pure (.bool (zC8 n)) w):=by
 refine zan (vs:=[_]) Tryz.func74 I I (bL I) (gS (gA I (gN [0,2] I (gS (gM I (gQ (zaJ en58 I (λ w hw=>zyR _ _ _ w)) (gQ (zbR I) (gA I (gN [2] I (zaw (zay (zaC I (zau I)) ?_)))))))))))
 rfl
end Go.Proofs.YteepmmghanbllaaGreatDoor