/- What the proof of the root text leans on, part 7: the layer, plain facts and walks. No statement of the seat is proved in this text. -/
import Derived.Laws.MakeOwn
import Derived.Test.YteepmmghanbllaaGreatDoorFx6
set_option maxRecDepth 100000
set_option maxHeartbeats 32000000
namespace Go.K
open Go Go.RowKit
abbrev bls (l:List Bool):List Value:=l.map Value.bool
theorem zFM (l:List Bool):(bls l).all zgS=true:=by simp [bls,zgS]
theorem zDw {l:List Bool} {i:Nat} (h:i<l.length):(bls l)[i]?=some (.bool (l.getD i false)):=by
 rw [List.getElem?_map,gE,eG h];rfl
section
variable {c:Cx} {ds:List Deferred} {p:Post} {T:List (Nat×Value)} {H:List Res} {ops:Array Oper} {rest:List Oper} {d:Option Nat} {ty:TypeId} {ps:String} {af:Array Edge} {g:Option (Nat×Bool)} {x y:Operand}
theorem zyK {t e:TypeId} {n b:Nat} {i:Int} (ht:AE c.P t e n 1) (hx:evo T x=some (Z b)) (hy:evo T y=some (O i)) (h0:0≤i) (h1:i<(n:Int)) :
  Y c ds H T ⟨d,.indexAddr t x y,ty,ps,af,g⟩ (.pointer (some ⟨b,i.toNat,none⟩)):=by
 have h:=zyA (c:=c) (ds:=ds) (H:=H) (T:=T) (d:=d) (ty:=ty) (ps:=ps) (af:=af) (g:=g) i.toNat ht hx hy (by omega) (by omega)
 rwa [Nat.zero_add,Nat.mul_one] at h
theorem zzm {t e:TypeId} {b:Nat} {z:Value} {l:List Bool} {i:Int} (ht:TF c.P t false 1 z) (hx:evo T x=some (.pointer (some ⟨b,i.toNat,none⟩))) (hh:∀ w,Hp c.U c.w0 H w→Has w (Box b (bls l) e)) (h1:i.toNat<l.length) :
  Y c ds H T ⟨d,.load t x,ty,ps,af,g⟩ (.bool (l.getD i.toNat false)):=zbW ht hx λ w hw=>zaQ (hh w hw) (zDw h1)
theorem zA9 {t e:TypeId} {b:Nat} {z:Value} {l:List Bool} {i:Int} {v:Bool} (m:Nat) (ht:TF c.P t false 1 z) (hx:evo T x=some (.pointer (some ⟨b,i.toNat,none⟩))) (hy:evo T y=some (.bool v)) (hi:H[m]?=some (Box b (bls l) e)) (h1:i.toNat<l.length)
  (kk:GK c ds (KL c ops p rest) T (H.set m (Box b (bls (l.set i.toNat v)) e))):GK c ds (KL c ops p (⟨none,.store t x y,ty,ps,af,none⟩ :: rest)) T H:=
 zpS m ht hx hy I I hi (by simpa [bls] using h1) (by rw [show(bls l).set i.toNat (.bool v)=bls (l.set i.toNat v) from by simp [bls,List.map_set]];exact kk)
theorem zEv {t e:TypeId} {n:Nat} {z:Value} {l:List Bool} {i:Int} (ha:AE c.P t e n 1) (ht:TF c.P e false 1 z) (hx:evo T x=some (.agg (bls l).toArray)) (hy:evo T y=some (O i)) (hl:l.length=n) (h0:0≤i) (h1:i<(n:Int)) :
  Y c ds H T ⟨d,.index t x y,ty,ps,af,g⟩ (.bool (l.getD i.toNat false)):=
 zcz λ a w hs _=>by
  simp only [execOp,hs.eval hx,hs.eval hy]
  refine zbu ?_
  unfold Instr.index
  rw [zal (v:=(IntKind.i64,i)) (w':=w) I]
  simp only []
  rw [zal (zaU ha.u)]
  simp only []
  have hz:(sizeOf e).run c.P w=.ok 1 w:=by
   have hi:=ha.i
   cases hu:c.P.info? e with
   | none=>rw [hu] at hi;cases hi
   | some j=>
    rw [hu] at hi
    simp only [Option.map_some,sI] at hi
    unfold sizeOf
    rw [zal (zfK hu)]
    simp [pure,hi]
  rw [if_pos ⟨h0,h1⟩,zal hz]
  unfold part
  rw [zal ht.agg]
  have hget:(bls l).toArray[i.toNat*1]?=some (.bool (l.getD i.toNat false)):=by
   rw [Nat.mul_one,List.getElem?_toArray]
   exact zDw (by omega)
  simp only [Bool.false_eq_true,if_false,hget]
  rfl
end
end Go.K
namespace Go.Proofs.YteepmmghanbllaaGreatDoor
open Go.K Go.Stn Go.Pln Go.Fld Go.RowKit
theorem zH3:TF Tryz.prog 112 false 1 (.nilFunc):=tK
theorem zFd:TF Tryz.prog 174 false 1 (.nilFunc):=tK
theorem zzb:FO Tryz.prog 144 1 1:=fK
theorem zAW:AE Tryz.prog 110 4 40 1:=⟨Tryz.underlying110,by kernel_rfl⟩
theorem en60:En Tryz.prog 60:=eK Tryz.func60
theorem en73:En Tryz.prog 73:=eK Tryz.func73
theorem en90:En Tryz.prog 90:=eK Tryz.func90
theorem zHw (c:Crg) (w:World)  :
  Calls Tryz.prog 48 #[.agg #[O c.frm,O c.to,O c.brd,O c.way,O c.eff]] w (Pure (.bool true) w):=by
 refine zan (vs:=[_]) Tryz.func48 I I (bL I) (gS (zaG I I (za3 (vs:=[_,_,_,_,_]) I I) λ b1=>(gA I (gN [2] I (gS (gA I (gN [2] I (zaw (zay (zaC I (zau I)) ?_)))))))))
 rfl
def zFl (n:Nat) (ca:Option Addr) (ccap:Nat) (cs:List ByteArray) (ba:Option Addr) (bcp:Nat) (bs:List Bdr) (lb:Nat) (wa fa:Option Addr) (wc fc:Nat) (W:List (Crg×Crg)) (F:List (Nat×List (Bool×Bool))) (may:Crg→Bool) (gg:FuncId) (gcap:List Value) (R:Res) (sb bx bm bv:Nat):Prop:=
 ∀ (s:List Bool) (cell:Int) (w:World) (B:Nat→Prop),unseen s≤n→s.length=40→s.getD cell.toNat false=false→0≤cell→cell<40→(∀ k,B k→k<w.heap.size)→(Box sb (bls s) 110).A B w →
  Rd (λ k=>k<w.heap.size∧¬ B k) w (Box bx [Z lb] 106)→Rd (λ k=>k<w.heap.size∧¬ B k) w (Box bm [.func (.func gg) #[] gcap.toArray] 112)→Rd (λ k=>k<w.heap.size∧¬ B k) w (Box bv [.func (.func 73) #[] #[Z sb,Z bx,Z bm,Z bv]] 174)→Rd (λ k=>k<w.heap.size∧¬ B k) w (Box lb [C ca cs.length ccap,C ba bs.length bcp,C wa W.length wc,C fa (F.map (·.1)).length fc] 128)→Rd (λ k=>k<w.heap.size∧¬ B k) w (zaW wa 10 zyw W)→Rd (λ k=>k<w.heap.size∧¬ B k) w (R) →
  Calls Tryz.prog 73 #[O cell,Z sb,Z bx,Z bm,Z bv] w (zho (λ _:Unit=>.tuple #[]) (λ _=>Box sb (bls (zzv W may n s cell)) 110) (λ _=>True) B w)
theorem zE4 {W:List (Crg×Crg)} {cell:Int} {n:Nat} {args:List Value} (h:((outL W cell).map zB9)[n]?=some args):n<(outL W cell).length∧args=zB9 ((outL W cell).getD n default):=by
 rw [List.getElem?_map] at h
 cases hl:(outL W cell)[n]? with
 | none=>rw [hl] at h;cases h
 | some c=>
  rw [hl] at h
  refine⟨(List.getElem?_eq_some_iff.1 hl).1,?_⟩
  rw [gE,hl]
  exact(Option.some.inj h).symm
theorem zH6 {W:List (Crg×Crg)} {cell:Int} {n:Nat} (h:ToOk W) (hn:n<(outL W cell).length):0≤((outL W cell).getD n default).to∧((outL W cell).getD n default).to<40:=by
 have hm:(outL W cell).getD n default∈outL W cell:=za0 hn
 obtain⟨_,_,p,hp,hc⟩:=zGw hm
 have:=h p hp
 rcases hc with e|e <;> rw [e] <;> omega
theorem zDm (ca:yO) (ccap:Nat) (cs:List ByteArray) (ba:yO) (bcp:Nat) (bs:List Bdr) (lb:Nat) (wa fa:yO) (wc fc:Nat) (W:List (Crg×Crg)) (F:List (Nat×List (Bool×Bool))) (may:Crg→Bool) (gg:FuncId) (gcap:List Value) (R:Res) (sb bx bm bv m:Nat) (hrec:zFl m ca ccap cs ba bcp bs lb wa fa wc fc W F may gg gcap R sb bx bm bv) (s:List Bool) (cell:Int) (w:World) (B:Nat→Prop) (hB:yak B w) (hA:(Box sb (bls s) 110).A B w) (hus:unseen s≤m+1) (hsl:s.length=40) (hsn:s.getD cell.toNat false=false) (hc0:0≤cell) (hc1:cell<40) (hbx:Rd (λ k=>k<w.heap.size∧¬ B k) w (Box bx [Z lb] 106)) (hbm:Rd (λ k=>k<w.heap.size∧¬ B k) w (Box bm [.func (.func gg) #[] gcap.toArray] 112)) (hbv:Rd (λ k=>k<w.heap.size∧¬ B k) w (Box bv [.func (.func 73) #[] #[Z sb,Z bx,Z bm,Z bv]] 174)) (hlb:Rd (λ k=>k<w.heap.size∧¬ B k) w (Box lb [C ca cs.length ccap,C ba bs.length bcp,C wa W.length wc,C fa (F.map (·.1)).length fc] 128)) (hWl:Rd (λ k=>k<w.heap.size∧¬ B k) w (zaW wa 10 zyw W)) (hRs:Rd (λ k=>k<w.heap.size∧¬ B k) w (R)) (hW:zaP W.length) (hto:ToOk W) (hen:En Tryz.prog gg) (hmay:∀ (c:Crg) w',Has w' R→Calls Tryz.prog gg ([]++[Value.agg (zzK c).toArray]++gcap).toArray w' (Pure (.bool (may c)) w')) :
  Calls Tryz.prog 73 #[O cell,Z sb,Z bx,Z bm,Z bv] w (zho (λ _:Unit=>.tuple #[]) (λ _=>Box sb (bls (zzv W may (m+1) s cell)) 110) (λ _=>True) B w):=by
 have hu1:=zy4 (s:=s) (i:=cell.toNat) (by omega) hsn
 refine zby hB hA (vs:=[_,_,_,_,_]) Tryz.func73 I I (bL I) (gS (gM I (gQ (zyK zAW I I (by omega) (by omega)) (zA9 (l:=s) (i:=cell) (v:=true) 0 tf4 I I I (by first|omega|(rw [hsl];omega)) (gN [0,1,2,3,4] I (gS (gQ (zbW zzI I (λ _ hw=>zaQ (Rd.has hbx hw) I)) (gM I (zaG I I (zbm en60 I (λ w hw=>zHf lb cell w)) λ p11=>zbP (gN [1,3,4,11] I (zas (gK [1,3,4,11] I (zk1 (X:=List Bool) (λ t=>[Box p11.1 [Z lb] 106,Box p11.2 [O cell] 3,Box sb (bls t) 110]) (λ n t=>t=(((outL W cell).take n).foldl (zzn (zzv W may m) may) (s.set cell.toNat true))) (λ t=>False) [] (s.set cell.toNat true) I en90 I I I (zGj p11.1 p11.2 cell lb wa fa wc fc W F ca ccap cs ba bcp bs hW) (λ t w hw=>⟨hw.has (p:=0) I,hw.has (p:=1) I,Rd.has hlb hw,Rd.has hWl hw⟩) (by intro a ha;obtain⟨c,_,rfl⟩:=List.mem_map.1 ha;rfl) I ?_ ?_ ?_ ?_)))))))))))))
 ·rintro R1 R2 rl U' w' n t args hget hR hrd hins hbeg
  obtain⟨hnl,rfl⟩:=zE4 hget
  have hmore:More (s.set cell.toNat true) t:=by rw [hR];exact zBL W may m _ _
  have htl:t.length=40:=by rw [hmore.len,List.length_set];exact hsl
  have htu:=hmore.unseen
  have hto0:=zH6 hto hnl
  have hst:(((outL W cell).take (n+1)).foldl (zzn (zzv W may m) may) (s.set cell.toNat true))=zzn (zzv W may m) may t ((outL W cell).getD n default):=by rw [zBM hnl,←hR]
  refine gK [1,3,4,12] I (zaa (zaG I I (zaL zyD (zs:=[_,_,_,_,_]) I) λ b6=>(zaA 0 zyD I I (vs:=[_,_,_,_,_]) I I I I I (gN [1,3,4,6] I (zao 1 I (hbeg _ _ _ (zas (zac (gZ 10 (ph_y (zab zzb I) (ph_y (zah 1 tf3 I I I) (ph_y (zyK zAW I I (by omega) (by omega)) (ph_y (zzm (l:=t) (i:=((outL W cell).getD n default).to) tf4 I (λ _ hw=>hw.has (p:=4) I) (by first|omega|(rw [hsl];omega))) (ph_y (zbR I) (ph_y (zaf I) (zaH I I (λ jj=>by(try rw [jj]);exact zbW zH3 I (λ _ hw=>zaQ (Rd.has (hrd _ hbm) hw) I)) (zaH I I (λ jj=>by(try rw [jj]);exact zat 1 zyD I I (vs:=[_,_,_,_,_]) I I) (zaH I I (λ jj=>by(try rw [jj]);exact zde (v:=.bool (may ((outL W cell).getD n default))) (fs:=[]) (cap:=gcap) hen I I (λ w hw=>hmay ((outL W cell).getD n default) w (Rd.has (hrd _ hRs) hw))) (ph_y (zaX I I I) (gN [4,6,22] I (zap I (λ hc22=>?_) (λ hc22=>?_))))))))))))))))))))))
  ·have htc:=hc22
   simp only [aT,nT] at htc
   refine zaa (gQ (zbW zFd I (λ _ hw=>zaQ (Rd.has (hrd _ hbv) hw) I)) (gQ (zab zzb I) (gQ (zah 1 tf3 I I I) (zkZ (fs:=[]) (cap:=[_,_,_,_]) 4 en73 I I I I (λ w B hF=>hrec t ((outL W cell).getD n default).to w B (by omega) htl (by simpa using htc.1) hto0.1 hto0.2 (λ k hk=>(hF.own k hk).2) hF.A (hF.rd (hrd _ hbx)) (hF.rd (hrd _ hbm)) (hF.rd (hrd _ hbv)) (hF.rd (hrd _ hlb)) (hF.rd (hrd _ hWl)) (hF.rd (hrd _ hRs))) λ u26 hq26=>(zag (zae (T':=[]) trivial (zaK 1 I ?_)))))))
   exact zb9 _ trivial I (by first|(rw [hst,zzn,if_pos hc22])|(rw [hst,zzn,if_neg (by rw [hc22];exact fT)]))
  ·refine zaq (zaK 1 I ?_)
   exact zb9 _ trivial I (by first|(rw [hst,zzn,if_pos hc22])|(rw [hst,zzn,if_neg (by rw [hc22];exact fT)]))
 ·intro Dm t hR
  have hfin:t=zzv W may (m+1) s cell:=by rw [hR,lM,List.take_length];rfl
  refine zil 0 I ?_
  exact zd9 () 2 (zcN I) I (by rw [←hfin];rfl) trivial
 ·exact λ _ _ h=>h.elim
 ·exact λ _ _ _ _ h=>absurd h (by simp)
theorem zDj:TF Tryz.prog 110 true 40 (.agg #[.bool false,.bool false,.bool false,.bool false,.bool false,.bool false,.bool false,.bool false,.bool false,.bool false,.bool false,.bool false,.bool false,.bool false,.bool false,.bool false,.bool false,.bool false,.bool false,.bool false,.bool false,.bool false,.bool false,.bool false,.bool false,.bool false,.bool false,.bool false,.bool false,.bool false,.bool false,.bool false,.bool false,.bool false,.bool false,.bool false,.bool false,.bool false,.bool false,.bool false]):=tK
theorem zB0 (ca:yO) (ccap:Nat) (cs:List ByteArray) (ba:yO) (bcp:Nat) (bs:List Bdr) (lb:Nat) (wa fa:yO) (wc fc:Nat) (W:List (Crg×Crg)) (F:List (Nat×List (Bool×Bool))) (may:Crg→Bool) (gg:FuncId) (gcap:List Value) (R:Res) (sb bx bm bv:Nat) (hW:zaP W.length) (hto:ToOk W) (hen:En Tryz.prog gg) (hmay:∀ (c:Crg) w',Has w' R→Calls Tryz.prog gg ([]++[Value.agg (zzK c).toArray]++gcap).toArray w' (Pure (.bool (may c)) w')):∀ n,zFl n ca ccap cs ba bcp bs lb wa fa wc fc W F may gg gcap R sb bx bm bv
 | 0=>λ s cell w B hus hsl hsn h0 h1 _ _ _ _ _ _ _ _=>by have:=zy4 (s:=s) (i:=cell.toNat) (by omega) hsn;omega
 | n+1=>λ s cell w B hus hsl hsn h0 h1 hB hA a1 a2 a3 a4 a5 a6=>by
  refine zDm ca ccap cs ba bcp bs lb wa fa wc fc W F may gg gcap R sb bx bm bv n (zB0 ca ccap cs ba bcp bs lb wa fa wc fc W F may gg gcap R sb bx bm bv hW hto hen hmay n) s cell w B hB hA ?_ ?_ ?_ ?_ ?_ ?_ ?_ ?_ ?_ ?_ ?_ ?_ ?_ ?_ ?_ <;> first|assumption|omega
theorem zE8 (ca:yO) (ccap:Nat) (cs:List ByteArray) (ba:yO) (bcp:Nat) (bs:List Bdr) (lb:Nat) (wa fa:yO) (wc fc:Nat) (W:List (Crg×Crg)) (F:List (Nat×List (Bool×Bool))) (may:Crg→Bool) (gg:FuncId) (gcap:List Value) (R:Res) (cell:Int) (w:World) (hc0:0≤cell) (hc1:cell<40) (hlb:Has w (Box lb [C ca cs.length ccap,C ba bs.length bcp,C wa W.length wc,C fa (F.map (·.1)).length fc] 128)) (hWl:Has w (zaW wa 10 zyw W)) (hR:Has w R) (hW:zaP W.length) (hto:ToOk W) (hen:En Tryz.prog gg) (hmay:∀ (c:Crg) w',Has w' R→Calls Tryz.prog gg ([]++[Value.agg (zzK c).toArray]++gcap).toArray w' (Pure (.bool (may c)) w')) :
  Calls Tryz.prog 47 #[Z lb,O cell,.func (.func gg) #[] gcap.toArray] w (Pure (.agg (bls (zze W may cell)).toArray) w):=by
 refine zan (vs:=[_,_,_]) Tryz.func47 I I (bL I) (gS (zaG I I (za3 (vs:=[_]) I I) λ b3=>(zaG I I (za3 (vs:=[_]) I I) λ b5=>(zaG I I (zaL zDj (zs:=[_,_,_,_,_,_,_,_,_,_,_,_,_,_,_,_,_,_,_,_,_,_,_,_,_,_,_,_,_,_,_,_,_,_,_,_,_,_,_,_]) I) λ b6=>(gN [1,3,5,6] I (gS (zaG I I (zaL zDj (zs:=[_,_,_,_,_,_,_,_,_,_,_,_,_,_,_,_,_,_,_,_,_,_,_,_,_,_,_,_,_,_,_,_,_,_,_,_,_,_,_,_]) I) λ b7=>(gN [1,3,5,6,7] I (gS (zaG I I (zaL zFd (zs:=[_]) I) λ b8=>(gN [1,3,5,6,7,8] I (gS (gQ (zbO («as»:=[]) (bs:=[_,_,_,_]) I I) (zaA 0 zFd I I (vs:=[_]) I I I I I (gN [1,6,7,8] I (gS (gQ (zah 0 zFd I I I) (gM I (zkZ (fs:=[]) (cap:=[_,_,_,_]) 1 en73 I I I I (λ w B hF=>zB0 ca ccap cs ba bcp bs lb wa fa wc fc W F may gg gcap R b7 b3 b5 b8 hW hto hen hmay 40 (List.replicate 40 false) cell w B (Nat.le_of_eq zAn) I zAE hc0 hc1 (λ k hk=>(hF.own k hk).2) hF.A (hF.other 3 I) (hF.other 2 I) (hF.other 0 I) (hF.rd (Has.rd hlb)) (hF.rd (Has.rd hWl)) (hF.rd (Has.rd hR))) λ u12 hq12=>(gN [6,7] I (zac (zaa ?_))))))))))))))))))))))
 refine gQ (zat 1 zDj I I (vs:=bls (zze W may cell)) (by rw [List.drop_zero];exact List.take_of_length_le (Nat.le_of_eq (by rw [lM];exact zy3))) (by rw [lM];exact zy3)) (zbz (vs:=bls (zze W may cell)) 2 zDj I I I (by rw [lM];exact zy3) (zFM _) I I (gN [6] I (zaw (zay (zaC I (zbU (i:=2) (vs:=bls (zze W may cell)) zDj I I (by rw [List.drop_zero];exact List.take_of_length_le (Nat.le_of_eq (by rw [lM];exact zy3))) (by rw [lM];exact zy3))) ?_))))
 rfl
end Go.Proofs.YteepmmghanbllaaGreatDoor
namespace Go.Fld
open Go Go.K Go.Stn Go.Pln
def sgnC (bs:List Bdr) (c:Crg):Int:=if c.frm=(bs.getD c.brd.toNat default).a then 1 else -1
def resC (bs:List Bdr) (u:List Int) (c:Crg):Bool:=!decide (u.getD c.brd.toNat 0=sgnC bs c)&&!(decide (u.getD c.brd.toNat 0=0)&&decide (c.way < -1))
def goC (bs:List Bdr) (u:List Int) (s:List Bool) (cell:Int) (c:Crg):Bool:=(decide (c.frm=cell)&&!s.getD c.to.toNat false)&&resC bs u c
def allC (W:List (Crg×Crg)):List Crg:=W.flatMap λ p=>[p.1,p.2]
abbrev Sst:=Option (List Crg)×List Bool
def zyU (f:List Bool→Int→Sst) (bs:List Bdr) (u:List Int) (cell:Int) (st:Sst) (c:Crg):Sst:=
 match st.1 with
 | some l=>(some l,st.2)
 | none=>if goC bs u st.2 cell c=true then((f st.2 c.to).1.map (c :: ·),(f st.2 c.to).2) else(none,st.2)
def zyy (W:List (Crg×Crg)) (bs:List Bdr) (u:List Int) (to:Int):Nat→List Bool→Int→Sst
 | 0,s,_=>(none,s)
 | n+1,s,cell=>if cell=to then(some [],s) else(allC W).foldl (zyU (zyy W bs u to n) bs u cell) (none,s.set cell.toNat true)
def addU (bs:List Bdr) (c:Crg) (u:List Int):List Int:=u.set c.brd.toNat (u.getD c.brd.toNat 0+sgnC bs c)
def augU (bs:List Bdr) (u:List Int) (l:List Crg):List Int:=l.foldr (addU bs) u
theorem zz7 {f:List Bool→Int→Sst} {bs:List Bdr} {u:List Int} {cell:Int} {p:List Crg} {s:List Bool}:∀ l:List Crg,l.foldl (zyU f bs u cell) (some p,s)=(some p,s)
 | []=>rfl
 | _ :: l=>by rw [List.foldl_cons];exact zz7 l
structure Shut (W:List (Crg×Crg)) (bs:List Bdr) (u:List Int) (to:Int) (s t:List Bool):Prop where
 more:More s t
 clo:∀ x:Nat,t.getD x false=true→s.getD x false=false→(x:Int)≠to∧∀ c∈allC W,c.frm=x→resC bs u c=true→t.getD c.to.toNat false=true
theorem Shut.rfl {W:List (Crg×Crg)} {bs:List Bdr} {u:List Int} {to:Int} {s:List Bool}:Shut W bs u to s s:=⟨More.rfl,λ x h k=>by rw [h] at k;cases k⟩
theorem Shut.trans {W:List (Crg×Crg)} {bs:List Bdr} {u:List Int} {to:Int} {a b c:List Bool} (h:Shut W bs u to a b) (k:Shut W bs u to b c):Shut W bs u to a c:=by
 refine⟨h.more.trans k.more,λ x hx ha=>?_⟩
 cases hb:b.getD x false with
 | true=>exact⟨(h.clo x hb ha).1,λ d hd h1 h2=>k.more.sub _ ((h.clo x hb ha).2 d hd h1 h2)⟩
 | false=>exact k.clo x hx hb
def Chn (x:Int):List Crg→Int→Prop
 | [],y=>x=y
 | c :: l,y=>c.frm=x∧Chn c.to l y
structure Fnd (W:List (Crg×Crg)) (bs:List Bdr) (u:List Int) (to:Int) (s:List Bool) (cell:Int) (l:List Crg):Prop where
 chn:Chn cell l to
 res:∀ c∈l,c∈allC W∧resC bs u c=true
 off:∀ z:Int,0≤z→s.getD z.toNat false=true→z≠cell→∀ d∈l,d.frm≠z∧d.to≠z
 pw:l.Pairwise λ c d=>d.frm≠c.frm∧d.to≠c.frm
def InOk (W:List (Crg×Crg)):Prop:=∀ c∈allC W,(0≤c.frm∧c.frm<40)∧0≤c.to∧c.to<40
theorem zBB {W:List (Crg×Crg)} {bs:List Bdr} {u:List Int} {to:Int} (hin:InOk W):∀ (n:Nat) (s:List Bool) (cell:Int),unseen s≤n→s.length=40→0≤cell→cell<40→s.getD cell.toNat false=false →
  (zyy W bs u to n s cell).2.length=40∧More s (zyy W bs u to n s cell).2 ∧
  (∀ l,(zyy W bs u to n s cell).1=some l→Fnd W bs u to s cell l) ∧
  ((zyy W bs u to n s cell).1=none→Shut W bs u to s (zyy W bs u to n s cell).2∧(zyy W bs u to n s cell).2.getD cell.toNat false=true)
 | 0,s,cell,hu,hl,h0,h1,hs=>by have:=zy4 (s:=s) (i:=cell.toNat) (by omega) hs;omega
 | n+1,s,cell,hu,hl,h0,h1,hs=>by
  have hu1:=zy4 (s:=s) (i:=cell.toNat) (by omega) hs
  rw [zyy]
  by_cases hct:cell=to
  ·rw [if_pos hct]
   exact⟨hl,More.rfl,λ l h=>(by cases h;exact⟨hct,λ c h=>(by cases h),λ _ _ _ _ d h=>(by cases h),.nil⟩),λ h=>(by cases h)⟩
  rw [if_neg hct]
  have hsg:=λ j=>zEi (s:=s) (i:=cell.toNat) (j:=j) (by omega)
  have key:∀ (l:List Crg),(∀ c∈l,c∈allC W)→∀ t:List Bool,unseen t≤n→t.length=40→t.getD cell.toNat false=true→More (s.set cell.toNat true) t→∀ r,l.foldl (zyU (zyy W bs u to n) bs u cell) (none,t)=r →
    r.2.length=40∧More t r.2∧(∀ p,r.1=some p→Fnd W bs u to s cell p)∧(r.1=none→Shut W bs u to t r.2∧∀ c∈l,c.frm=cell→resC bs u c=true→r.2.getD c.to.toNat false=true):=by
   intro l
   induction l with
   | nil=>rintro _ t _ htl _ _ r rfl;exact⟨htl,More.rfl,λ p h=>(by cases h),λ _=>⟨Shut.rfl,λ c hc=>(by cases hc)⟩⟩
   | cons c l ih=>
    intro hal t htu htl htc hst r hr
    have hcm:=hal c (mS ..)
    have hci:=hin c hcm
    rw [List.foldl_cons] at hr
    by_cases hg:goC bs u t cell c=true
    ·have hg2:=hg
     unfold goC at hg2
     simp only [aT,nT,dT] at hg2
     obtain⟨⟨hf,hns⟩,hres⟩:=hg2
     obtain⟨a1,a2,a3,a4⟩:=zBB hin n t c.to htu htl hci.2.1 hci.2.2 hns
     have hstep:zyU (zyy W bs u to n) bs u cell (none,t) c=((zyy W bs u to n t c.to).1.map (c :: ·),(zyy W bs u to n t c.to).2):=by
      unfold zyU
      simp only []
      rw [if_pos hg]
     rw [hstep] at hr
     cases hq:(zyy W bs u to n t c.to).1 with
     | some q=>
      rw [hq,Option.map_some,zz7] at hr
      subst hr
      refine⟨a1,a2,λ p hp=>?_,λ h=>by cases h⟩
      cases hp
      have b:=a3 q hq
      have hne:cell≠c.to:=λ h=>by rw [←h,htc] at hns;cases hns
      refine⟨⟨hf,b.chn⟩,λ d hd=>?_,λ z hz hsz hzc d hd=>?_,?_⟩
      ·rcases List.mem_cons.1 hd with rfl|hd
       ·exact⟨hcm,hres⟩
       ·exact b.res d hd
      ·have htz:t.getD z.toNat false=true:=hst.sub _ (More.set.sub _ hsz)
       rcases List.mem_cons.1 hd with rfl|hd
       ·exact⟨λ h=>hzc (h.symm.trans hf),λ h=>by rw [←h,hns] at htz;cases htz⟩
       ·exact b.off z hz htz (λ h=>by rw [h,hns] at htz;cases htz) d hd
      ·refine List.pairwise_cons.2 ⟨λ d hd=>?_,b.pw⟩
       rw [hf]
       exact b.off cell h0 htc hne d hd
     | none=>
      rw [hq,Option.map_none] at hr
      obtain⟨b1,b2⟩:=a4 hq
      obtain⟨i1,i2,i3,i4⟩:=ih (λ d hd=>hal d (mM _ hd)) _ (Nat.le_trans a2.unseen htu) a1 (a2.sub _ htc) (hst.trans a2) r hr
      refine⟨i1,a2.trans i2,i3,λ hn=>?_⟩
      obtain⟨j1,j2⟩:=i4 hn
      refine⟨b1.trans j1,λ d hd hdf hdr=>?_⟩
      rcases List.mem_cons.1 hd with rfl|hd
      ·exact i2.sub _ b2
      ·exact j2 d hd hdf hdr
    ·have hstep:zyU (zyy W bs u to n) bs u cell (none,t) c=(none,t):=by
      unfold zyU
      simp only []
      rw [if_neg hg]
     rw [hstep] at hr
     obtain⟨i1,i2,i3,i4⟩:=ih (λ d hd=>hal d (mM _ hd)) t htu htl htc hst r hr
     refine⟨i1,i2,i3,λ hn=>?_⟩
     obtain⟨j1,j2⟩:=i4 hn
     refine⟨j1,λ d hd hdf hdr=>?_⟩
     rcases List.mem_cons.1 hd with rfl|hd
     ·cases hsd:t.getD d.to.toNat false with
      | true=>exact i2.sub _ hsd
      | false=>exact absurd (by unfold goC;rw [hsd,hdr,decide_eq_true hdf];rfl) hg
     ·exact j2 d hd hdf hdr
  obtain⟨k1,k2,k3,k4⟩:=key (allC W) (λ _ h=>h) (s.set cell.toNat true) (by omega) (by rw [List.length_set];exact hl) (by rw [hsg,if_pos I]) More.rfl _ I
  refine⟨k1,More.trans More.set k2,k3,λ hn=>?_⟩
  obtain⟨j1,j2⟩:=k4 hn
  refine⟨⟨More.trans More.set k2,λ x hx hsx=>?_⟩,k2.sub _ (by rw [hsg,if_pos I])⟩
  by_cases hxc:x=cell.toNat
  ·subst hxc
   rw [tN h0]
   exact⟨hct,j2⟩
  ·exact j1.clo x hx (by rw [hsg,if_neg hxc];exact hsx)
def sumZ (g:Nat→Int):Nat→Int
 | 0=>0
 | n+1=>sumZ g n+g n
theorem zzE {g h:Nat→Int}:∀ {n:Nat},(∀ i,i<n→g i=h i)→sumZ g n=sumZ h n
 | 0,_=>rfl
 | n+1,e=>by rw [sumZ,sumZ,zzE (n:=n) (λ i hi=>e i (by omega)),e n (by omega)]
theorem zC2 {g h:Nat→Int} {j:Nat}:∀ {n:Nat},j<n→(∀ i,i≠j→g i=h i)→sumZ g n=sumZ h n+(g j - h j)
 | 0,hj,_=>by omega
 | n+1,hj,e=>by
  rw [sumZ,sumZ]
  by_cases hn:j=n
  ·subst hn
   rw [zzE (n:=j) (g:=g) (h:=h) (λ i hi=>e i (by omega))];omega
  ·rw [zC2 (n:=n) (by omega) e,e n (by omega)];omega
theorem zCA {g h:Nat→Int}:∀ {n:Nat},(∀ i,i<n→g i≤h i)→sumZ g n≤sumZ h n
 | 0,_=>Int.le_refl _
 | n+1,e=>by
  have h1:=zCA (n:=n) (λ i hi=>e i (by omega))
  have h2:=e n (by omega)
  rw [sumZ,sumZ];omega
theorem zC1:∀ {n:Nat},sumZ (λ _=>1) n=n
 | 0=>rfl
 | n+1=>by rw [sumZ,zC1];omega
theorem zAS:∀ {n:Nat},sumZ (λ _=>0) n=0
 | 0=>rfl
 | n+1=>by rw [sumZ,zAS];omega
theorem zFc {g:Nat→Int} {n:Nat} (h:0<sumZ g n):∃ i,i<n∧0<g i:=by
 refine Classical.byContradiction λ hc=>?_
 have:sumZ g n≤sumZ (λ _=>0) n:=zCA λ i hi=>by
  refine Classical.byContradiction λ h2=>hc ⟨i,hi,by omega⟩
 rw [zAS] at this;omega
abbrev fstC (W:List (Crg×Crg)) (i:Nat):Crg:=(W.getD i default).1
abbrev sndC (W:List (Crg×Crg)) (i:Nat):Crg:=(W.getD i default).2
abbrev uI (u:List Int) (i:Nat):Int:=u.getD i 0
structure zyI (W:List (Crg×Crg)) (bs:List Bdr):Prop where
 len:W.length=bs.length
 fst:∀ i,i<W.length→(fstC W i).brd=i∧(fstC W i).frm=(bs.getD i default).a∧(fstC W i).to=(bs.getD i default).b
 snd:∀ i,i<W.length→(sndC W i).brd=i∧(sndC W i).frm=(bs.getD i default).b∧(sndC W i).to=(bs.getD i default).a
 ne:∀ i,i<W.length→(bs.getD i default).a≠(bs.getD i default).b
 bnd:∀ i,i<W.length→(0≤(bs.getD i default).a∧(bs.getD i default).a<40)∧0≤(bs.getD i default).b∧(bs.getD i default).b<40
section
variable {W:List (Crg×Crg)} {bs:List Bdr} {u:List Int} {frm to:Int}
theorem zFE {c:Crg} (h:c∈allC W):∃ i,i<W.length∧(c=fstC W i∨c=sndC W i):=by
 obtain⟨p,hp,hc⟩:=List.mem_flatMap.1 h
 obtain⟨i,hi,rfl⟩:=List.getElem_of_mem hp
 refine⟨i,hi,?_⟩
 unfold fstC sndC
 rw [gE,eG hi,Option.getD_some]
 simpa using hc
theorem zBd {i:Nat} (hi:i<W.length):fstC W i∈allC W:=by
 refine List.mem_flatMap.2 ⟨W.getD i default,za0 hi,?_⟩
 exact mS ..
theorem zBe {i:Nat} (hi:i<W.length):sndC W i∈allC W:=by
 refine List.mem_flatMap.2 ⟨W.getD i default,za0 hi,?_⟩
 exact mM _ (mS ..)
theorem zyP (hp:zyI W bs) {c:Crg} (h:c∈allC W):∃ i,i<W.length∧c.brd=i∧((c=fstC W i∧sgnC bs c=1∧c.frm=(fstC W i).frm∧c.to=(fstC W i).to)∨(c=sndC W i∧sgnC bs c = -1∧c.frm=(fstC W i).to∧c.to=(fstC W i).frm)):=by
 obtain⟨i,hi,hc⟩:=zFE h
 have h1:=hp.fst i hi
 have h2:=hp.snd i hi
 have h3:=hp.ne i hi
 refine⟨i,hi,?_⟩
 rcases hc with rfl|rfl
 ·refine⟨h1.1,.inl ⟨rfl,?_,rfl,rfl⟩⟩
  unfold sgnC
  rw [h1.1,Int.toNat_natCast,if_pos h1.2.1]
 ·refine⟨h2.1,.inr ⟨rfl,?_,by rw [h2.2.1,h1.2.2],by rw [h2.2.2,h1.2.1]⟩⟩
  unfold sgnC
  rw [h2.1,Int.toNat_natCast,h2.2.1,if_neg (λ e=>h3 e.symm)]
theorem zzl (hp:zyI W bs):InOk W:=by
 intro c hc
 obtain⟨i,hi,_,h⟩:=zyP hp hc
 have h1:=hp.fst i hi
 have h2:=hp.bnd i hi
 rcases h with ⟨_,_,a,b⟩ | ⟨_,_,a,b⟩ <;> rw [a,b,h1.2.1,h1.2.2]
 ·exact h2
 ·exact⟨h2.2,h2.1⟩
def netF (W:List (Crg×Crg)) (u:List Int) (f:Int→Int):Int:=sumZ (λ i=>uI u i*(f (fstC W i).frm - f (fstC W i).to)) W.length
theorem zAx {u:List Int} {i j:Nat} {v:Int} (h:i<u.length):uI (u.set i v) j=if j=i then v else uI u j:=by
 unfold uI
 rw [gE,List.getElem?_set,gE]
 by_cases hj:i=j
 ·subst hj;rw [if_pos I,if_pos h,if_pos I];rfl
 ·rw [if_neg hj,if_neg (λ h=>hj h.symm)]
theorem zD4 {i:Nat} {v:Int} (hu:u.length=W.length) (hi:i<W.length) (f:Int→Int):netF W (u.set i v) f=netF W u f+(v - uI u i)*(f (fstC W i).frm - f (fstC W i).to):=by
 have hs:=λ j=>zAx (u:=u) (i:=i) (j:=j) (v:=v) (by omega)
 unfold netF
 rw [zC2 (h:=λ i=>uI u i*(f (fstC W i).frm - f (fstC W i).to)) (j:=i) hi (λ k hk=>by rw [hs,if_neg hk])]
 rw [hs,if_pos I,Int.sub_mul]
theorem zFC {c:Crg}:(addU bs c u).length=u.length:=by unfold addU;rw [List.length_set]
theorem zzg:∀ l:List Crg,(augU bs u l).length=u.length
 | []=>rfl
 | c :: l=>by unfold augU;rw [List.foldr_cons,zFC];exact zzg l
theorem zGp (hp:zyI W bs) (hu:u.length=W.length) {c:Crg} (hc:c∈allC W) (f:Int→Int):netF W (addU bs c u) f=netF W u f+(f c.frm - f c.to):=by
 obtain⟨i,hi,hb,h⟩:=zyP hp hc
 unfold addU
 rw [hb,Int.toNat_natCast,zD4 hu hi]
 rcases h with ⟨_,e,a,b⟩ | ⟨_,e,a,b⟩ <;> rw [e,a,b]
 ·rw [show uI u i=u.getD i 0 from rfl,show u.getD i 0+1 - u.getD i 0=1 from by omega,Int.one_mul]
 ·rw [show uI u i=u.getD i 0 from rfl,show u.getD i 0 + -1 - u.getD i 0 = -1 from by omega];omega
theorem zD3 (hp:zyI W bs) (hu:u.length=W.length) (f:Int→Int):∀ (l:List Crg) (x y:Int),Chn x l y→(∀ c∈l,c∈allC W)→netF W (augU bs u l) f=netF W u f+(f x - f y)
 | [],x,y,h,_=>by rw [show x=y from h];unfold augU;rw [List.foldr_nil];omega
 | c :: l,x,y,h,hm=>by
  have ih:=zD3 hp hu f l c.to y h.2 (λ d hd=>hm d (mM _ hd))
  show netF W (addU bs c (augU bs u l)) f=_
  rw [zGp hp ((zzg l).trans hu) (hm c (mS ..)),ih,h.1];omega
structure Rng (W:List (Crg×Crg)) (u:List Int):Prop where
 len:u.length=W.length
 rng:∀ i,i<W.length→uI u i=0∨(uI u i=1∧-1≤(fstC W i).way)∨(uI u i = -1∧-1≤(sndC W i).way)
structure Flw (W:List (Crg×Crg)) (frm to:Int) (u:List Int) (k:Int):Prop extends Rng W u where
 net:∀ f,netF W u f=k*(f frm - f to)
theorem zBf {i:Nat}:∀ l:List Crg,(∀ c∈l,c.brd.toNat≠i)→uI (augU bs u l) i=uI u i
 | [],_=>rfl
 | c :: l,h=>by
  have ih:=zBf l (λ d hd=>h d (mM _ hd))
  show uI (addU bs c (augU bs u l)) i=_
  unfold addU
  rw [←ih]
  by_cases hc:c.brd.toNat<(augU bs u l).length
  ·rw [zAx hc,if_neg (λ e=>h c (mS ..) e.symm)]
  ·rw [List.set_eq_of_length_le (by omega)]
theorem zFm (hu:∀ c∈allC W,c.brd.toNat<u.length):∀ l:List Crg,(∀ c∈l,c∈allC W)→(l.Pairwise λ c d=>d.brd.toNat≠c.brd.toNat)→∀ c∈l,uI (augU bs u l) c.brd.toNat=uI u c.brd.toNat+sgnC bs c
 | [],_,_,c,h=>by cases h
 | d :: l,hm,hp,c,h=>by
  obtain⟨p1,p2⟩:=List.pairwise_cons.1 hp
  have hd:=hu d (hm d (mS ..))
  show uI (addU bs d (augU bs u l)) c.brd.toNat=_
  unfold addU
  rw [zAx (by rw [zzg];exact hd)]
  rcases List.mem_cons.1 h with rfl|h
  ·rw [if_pos I]
   rw [show(augU bs u l).getD c.brd.toNat 0=uI (augU bs u l) c.brd.toNat from rfl,zBf l p1]
  ·rw [if_neg (p1 c h)]
   exact zFm hu l (λ d hd=>hm d (mM _ hd)) p2 c h
theorem zG2 (hp:zyI W bs) {c:Crg} (hc:c∈allC W):c.brd.toNat<W.length:=by
 obtain⟨i,hi,hb,_⟩:=zyP hp hc
 rw [hb];omega
theorem zFI (hp:zyI W bs) {k:Int} (h:Flw W frm to u k) {s:List Bool} {l:List Crg} (hf:Fnd W bs u to s frm l):Flw W frm to (augU bs u l) (k+1):=by
 have hm:∀ c∈l,c∈allC W:=λ c hc=>(hf.res c hc).1
 have hpw:l.Pairwise λ c d=>d.brd.toNat≠c.brd.toNat:=by
  refine List.Pairwise.imp_of_mem ?_ hf.pw
  intro c d hc hd h1 e
  obtain⟨i,hi,hb,hci⟩:=zyP hp (hm c hc)
  obtain⟨j,hj,hb2,hdj⟩:=zyP hp (hm d hd)
  rw [hb,hb2] at e
  have:j=i:=by omega
  subst this
  rcases hci with ⟨_,_,a1,a2⟩ | ⟨_,_,a1,a2⟩ <;> rcases hdj with ⟨_,_,b1,b2⟩ | ⟨_,_,b1,b2⟩
  ·exact h1.1 (by rw [a1,b1])
  ·exact h1.2 (by rw [a1,b2])
  ·exact h1.2 (by rw [a1,b2])
  ·exact h1.1 (by rw [a1,b1])
 refine⟨⟨(zzg l).trans h.len,λ i hi=>?_⟩,λ f=>?_⟩
 ·by_cases hc:∃ c∈l,c.brd.toNat=i
  ·obtain⟨c,hc,rfl⟩:=hc
   rw [zFm (W:=W) (λ d hd=>by rw [h.len];exact zG2 hp hd) l hm hpw c hc]
   obtain⟨j,hj,hb,hcj⟩:=zyP hp (hm c hc)
   have hr:=(hf.res c hc).2
   unfold resC at hr
   simp only [aT,nT,dF,Bool.and_eq_false_iff] at hr
   obtain⟨r1,r2⟩:=hr
   have hj2:c.brd.toNat=j:=by omega
   rw [hj2] at r1 r2 ⊢
   have h0:=h.rng j hj
   unfold uI at h0 ⊢
   rcases hcj with ⟨e,e1,_⟩ | ⟨e,e1,_⟩ <;> rw [e1] at r1 ⊢ <;> rw [←e] at h0 ⊢ <;> omega
  ·rw [zBf l (λ c hcl e=>hc ⟨c,hcl,e⟩)]
   exact h.rng i hi
 ·rw [zD3 hp h.len f l frm to hf.chn hm,h.net,Int.add_mul,Int.one_mul]
end
def idxN (p:Nat→Bool) (n:Nat):List Int:=((List.range n).filter p).map λ(i:Nat)=>(i:Int)
theorem zBy {p:Nat→Bool} {n:Nat} (h:p n=true):idxN p (n+1)=idxN p n++[(n:Int)]:=by
 unfold idxN
 rw [List.range_succ,List.filter_append,List.map_append,List.filter_cons_of_pos h];rfl
theorem zCt {p:Nat→Bool} {n:Nat} (h:p n=false):idxN p (n+1)=idxN p n:=by
 unfold idxN
 rw [List.range_succ,List.filter_append,List.map_append,List.filter_cons_of_neg (by rw [h];exact fT)]
 simp
theorem zDX {p:Nat→Bool} {n:Nat}:(idxN p n).length≤n:=by
 unfold idxN
 rw [lM]
 exact Nat.le_trans (List.length_filter_le _ _) (Nat.le_of_eq List.length_range)
theorem zBx {p:Nat→Bool}:∀ {n:Nat},((idxN p n).length:Int)=sumZ (λ i=>if p i=true then 1 else 0) n
 | 0=>rfl
 | n+1=>by
  cases h:p n with
  | true=>rw [zBy h,lA,sumZ,←zBx,h,if_pos I];rfl
  | false=>rw [zCt h,sumZ,←zBx,h,if_neg fT];omega
section
variable {W:List (Crg×Crg)} {bs:List Bdr} {u:List Int} {frm to:Int} {s:List Bool} {k:Int}
def dirC (W:List (Crg×Crg)) (u:List Int) (i:Nat):Crg:=if uI u i = -1 then sndC W i else fstC W i
def cutT (W:List (Crg×Crg)) (u:List Int) (s:List Bool) (i:Nat):Bool:=(!decide (uI u i=0)&&s.getD (dirC W u i).frm.toNat false)&&!s.getD (dirC W u i).to.toNat false
def clsB (W:List (Crg×Crg)) (u:List Int) (s:List Bool):List Int:=idxN (cutT W u s) W.length
structure Clo (W:List (Crg×Crg)) (bs:List Bdr) (u:List Int) (frm to:Int) (s:List Bool):Prop where
 here:s.getD frm.toNat false=true
 off:s.getD to.toNat false=false
 clo:∀ c∈allC W,s.getD c.frm.toNat false=true→resC bs u c=true→s.getD c.to.toNat false=true
theorem zG9 (hin:InOk W) (h0:0≤to) (h:Shut W bs u to (List.replicate 40 false) s) (hh:s.getD frm.toNat false=true):Clo W bs u frm to s:=by
 refine⟨hh,?_,λ c hc hs hr=>?_⟩
 ·cases ht:s.getD to.toNat false with
  | false=>rfl
  | true=>exact absurd (tN h0) (h.clo _ ht zAE).1
 ·exact(h.clo _ hs zAE).2 c hc (tN (hin c hc).1.1).symm hr
def indS (s:List Bool) (x:Int):Int:=if s.getD x.toNat false=true then 1 else 0
theorem zEK (hp:zyI W bs) (hr:Rng W u) (hc:Clo W bs u frm to s) {i:Nat} (hi:i<W.length):uI u i*(indS s (fstC W i).frm - indS s (fstC W i).to)=if cutT W u s i=true then 1 else 0:=by
 have h1:=hp.fst i hi
 have h2:=hp.snd i hi
 have g1:sgnC bs (fstC W i)=1:=by unfold sgnC;rw [h1.1,Int.toNat_natCast,if_pos h1.2.1]
 have g2:sgnC bs (sndC W i) = -1:=by unfold sgnC;rw [h2.1,Int.toNat_natCast,h2.2.1,if_neg (λ e=>hp.ne i hi e.symm)]
 rcases hr.rng i hi with h|h|h
 ·rw [h,Int.zero_mul,if_neg]
  unfold cutT;rw [decide_eq_true h];simp
 ·have hc2:=hc.clo (sndC W i) (zBe hi)
  rw [h2.2.1,h2.2.2] at hc2
  have hres:resC bs u (sndC W i)=true:=by unfold resC;rw [g2,h2.1,Int.toNat_natCast,show u.getD i 0=1 from h.1];rfl
  unfold cutT dirC
  rw [h.1,if_neg (show ¬ (1:Int) = -1 from by decide),h1.2.1,h1.2.2]
  unfold indS
  cases ha:s.getD (bs.getD i default).a.toNat false <;> cases hb:s.getD (bs.getD i default).b.toNat false
  ·rfl
  ·rw [hc2 hb hres] at ha;cases ha
  ·rfl
  ·rfl
 ·have hc2:=hc.clo (fstC W i) (zBd hi)
  rw [h1.2.1,h1.2.2] at hc2
  have hres:resC bs u (fstC W i)=true:=by unfold resC;rw [g1,h1.1,Int.toNat_natCast,show u.getD i 0 = -1 from h.1];rfl
  unfold cutT dirC
  rw [h.1,if_pos I,h1.2.1,h1.2.2,h2.2.1,h2.2.2]
  unfold indS
  cases ha:s.getD (bs.getD i default).a.toNat false <;> cases hb:s.getD (bs.getD i default).b.toNat false
  ·rfl
  ·rfl
  ·rw [hc2 ha hres] at hb;cases hb
  ·rfl
theorem zFY (hp:zyI W bs) (hf:Flw W frm to u k) (hc:Clo W bs u frm to s):((clsB W u s).length:Int)=k:=by
 have h:=hf.net (indS s)
 unfold clsB
 rw [zBx,←zzE (λ i hi=>zEK hp hf.toRng hc hi)]
 refine h.trans ?_
 unfold indS
 rw [if_pos hc.here,if_neg (by rw [hc.off];exact fT)];omega
theorem zJd {cell:Int} {c:Crg} (h:c∈outL W cell):c∈allC W∧c.frm=cell∧-1≤c.way:=by
 obtain⟨h1,h2,p,hp,hc⟩:=zGw h
 refine⟨List.mem_flatMap.2 ⟨p,hp,?_⟩,h1,h2⟩
 rcases hc with rfl|rfl
 ·exact mS ..
 ·exact mM _ (mS ..)
theorem zJK {c:Crg} (h:c∈allC W) (hw:-1≤c.way):c∈outL W c.frm:=by
 obtain⟨p,hp,hc⟩:=List.mem_flatMap.1 h
 refine List.mem_flatMap.2 ⟨p,hp,?_⟩
 have hk:zyF c.frm c=true:=by unfold zyF;rw [decide_eq_true I,decide_eq_true hw];rfl
 unfold zAZ
 rcases List.mem_cons.1 hc with rfl|hc
 ·exact List.mem_append.2 (.inl (by rw [if_pos hk];exact mS ..))
 ·rw [List.mem_singleton] at hc
  subst hc
  exact List.mem_append.2 (.inr (by rw [if_pos hk];exact mS ..))
theorem zFr (hne:frm≠to) (hf:Flw W frm to u k):k≤W.length:=by
 have hnet:=hf.net (λ x=>if x=frm then 1 else 0)
 simp only [if_pos,if_neg (λ e:to=frm=>hne e.symm)] at hnet
 have hle:netF W u (λ x=>if x=frm then 1 else 0)≤sumZ (λ _=>1) W.length:=by
  refine zCA λ i hi=>?_
  rcases hf.rng i hi with h|h|h
  ·rw [h];omega
  ·rw [h.1];simp only [];split <;> split <;> omega
  ·rw [h.1];simp only [];split <;> split <;> omega
 rw [zC1] at hle
 omega
end
end Go.Fld
namespace Go.Fld
open Go Go.K Go.Stn Go.Pln
def outU (bs:List Bdr) (u:List Int) (r:Sst):List Int:=
 match r.1 with
 | some l=>augU bs u l
 | none=>u
theorem zAP {bs:List Bdr} {u:List Int} {r:Sst} {l:List Crg} (h:r.1=some l):outU bs u r=augU bs u l:=by unfold outU;rw [h]
theorem zAO {bs:List Bdr} {u:List Int} {r:Sst} (h:r.1=none):outU bs u r=u:=by unfold outU;rw [h]
section
variable (f:List Bool→Int→Sst) (bs:List Bdr) (u:List Int) (cell:Int) (W:List (Crg×Crg)) (s:List Bool)
def stK (i:Nat) (k:Int):Sst:=
 if k≤0 then(allC (W.take i)).foldl (zyU f bs u cell) (none,s)
 else if k≤1 then zyU f bs u cell ((allC (W.take i)).foldl (zyU f bs u cell) (none,s)) (fstC W i)
 else zyU f bs u cell (zyU f bs u cell ((allC (W.take i)).foldl (zyU f bs u cell) (none,s)) (fstC W i)) (sndC W i)
end
section
variable {f:List Bool→Int→Sst} {bs:List Bdr} {u:List Int} {cell:Int} {W:List (Crg×Crg)} {s:List Bool} {i:Nat}
theorem zEm:stK f bs u cell W s i 1=zyU f bs u cell (stK f bs u cell W s i 0) (fstC W i):=rfl
theorem zDh:stK f bs u cell W s i 2=zyU f bs u cell (stK f bs u cell W s i 1) (sndC W i):=rfl
theorem zGW (h:i<W.length):allC (W.take (i+1))=allC (W.take i)++[fstC W i,sndC W i]:=by
 unfold allC
 rw [zAT h,List.flatMap_append];rfl
theorem zEn (h:i<W.length):stK f bs u cell W s (i+1) 0=stK f bs u cell W s i 2:=by
 show(allC (W.take (i+1))).foldl (zyU f bs u cell) (none,s)=_
 rw [zGW h,List.foldl_append];rfl
theorem zGE (h:W.length≤i):stK f bs u cell W s i 0=(allC W).foldl (zyU f bs u cell) (none,s):=by
 show(allC (W.take i)).foldl (zyU f bs u cell) (none,s)=_
 rw [List.take_of_length_le h]
theorem zkD (_h:i≤W.length):allC W=allC (W.take i)++allC (W.drop i):=by
 unfold allC
 rw [←List.flatMap_append,List.take_append_drop]
theorem zE9 (h:i<W.length) {p:List Crg} {t:List Bool} (hs:stK f bs u cell W s i 1=(some p,t)):(allC W).foldl (zyU f bs u cell) (none,s)=(some p,t):=by
 have h2:stK f bs u cell W s i 2=(some p,t):=by rw [zDh,hs];rfl
 rw [zkD (i:=i+1) (by omega),List.foldl_append]
 rw [←zEn h] at h2
 rw [show(allC (W.take (i+1))).foldl (zyU f bs u cell) (none,s)=(some p,t) from h2,zz7]
theorem zFa (h:i<W.length) {p:List Crg} {t:List Bool} (hs:stK f bs u cell W s i 2=(some p,t)):(allC W).foldl (zyU f bs u cell) (none,s)=(some p,t):=by
 rw [zkD (i:=i+1) (by omega),List.foldl_append]
 rw [←zEn h] at hs
 rw [show(allC (W.take (i+1))).foldl (zyU f bs u cell) (none,s)=(some p,t) from hs,zz7]
theorem zAy {t:List Bool} {c:Crg} (h:goC bs u t cell c=false):zyU f bs u cell (none,t) c=(none,t):=by
 unfold zyU
 simp only []
 rw [if_neg (by rw [h];exact fT)]
theorem zzf {t:List Bool} {c:Crg} (h:goC bs u t cell c=true):zyU f bs u cell (none,t) c=((f t c.to).1.map (c :: ·),(f t c.to).2):=by
 unfold zyU
 simp only []
 rw [if_pos h]
theorem go_t {t:List Bool} {c:Crg} (h:(((!decide (c.frm=cell)||t.getD c.to.toNat false)||decide (u.getD c.brd.toNat 0=sgnC bs c))||(decide (u.getD c.brd.toNat 0=0)&&decide (c.way < -1)))=false):goC bs u t cell c=true:=by
 unfold goC resC
 revert h
 cases decide (c.frm=cell) <;> cases t.getD c.to.toNat false <;> cases decide (u.getD c.brd.toNat 0=sgnC bs c) <;> cases decide (u.getD c.brd.toNat 0=0) <;> cases decide (c.way < -1) <;> simp
theorem go_f {t:List Bool} {c:Crg} (h:(((!decide (c.frm=cell)||t.getD c.to.toNat false)||decide (u.getD c.brd.toNat 0=sgnC bs c))||(decide (u.getD c.brd.toNat 0=0)&&decide (c.way < -1)))=true):goC bs u t cell c=false:=by
 unfold goC resC
 revert h
 cases decide (c.frm=cell) <;> cases t.getD c.to.toNat false <;> cases decide (u.getD c.brd.toNat 0=sgnC bs c) <;> cases decide (u.getD c.brd.toNat 0=0) <;> cases decide (c.way < -1) <;> simp
end
end Go.Fld
namespace Go.Fld
open Go Go.K Go.Stn Go.Pln
theorem zBV (bs:List Bdr) (c:Crg):sgnC bs c=1∨sgnC bs c = -1:=by
 unfold sgnC
 split
 ·exact .inl I
 ·exact .inr I
theorem zCD {W:List (Crg×Crg)} {bs:List Bdr} {u:List Int} {to:Int} {t:List Bool} {c:Crg} {p:List Crg} (hp:zyI W bs) (hc:c∈allC W) (h0:0≤c.frm) (ht:t.getD c.frm.toNat false=true) (hn:t.getD c.to.toNat false=false) (hf:Fnd W bs u to t c.to p):(augU bs u p).getD c.brd.toNat 0=u.getD c.brd.toNat 0:=by
 refine zBf p λ d hd e=>?_
 have h:=hf.off c.frm h0 ht (λ e2=>by rw [e2,hn] at ht;cases ht) d hd
 obtain⟨i,_,hb,hci⟩:=zyP hp hc
 obtain⟨j,_,hb2,hdj⟩:=zyP hp (hf.res d hd).1
 have:j=i:=by omega
 subst this
 rcases hci with ⟨_,_,a1,a2⟩ | ⟨_,_,a1,a2⟩ <;> rcases hdj with ⟨_,_,b1,b2⟩ | ⟨_,_,b1,b2⟩
 ·exact h.1 (by rw [a1,b1])
 ·exact h.2 (by rw [a1,b2])
 ·exact h.2 (by rw [a1,b2])
 ·exact h.1 (by rw [a1,b1])
end Go.Fld
namespace Go.Fld
open Go Go.K Go.Stn Go.Pln
def nxtU (W:List (Crg×Crg)) (bs:List Bdr) (frm to:Int) (u:List Int):Sst:=zyy W bs u to 40 (List.replicate 40 false) frm
def clsF (W:List (Crg×Crg)) (bs:List Bdr) (frm to:Int):Nat→List Int→List Int×List Bool
 | 0,u=>(u,[])
 | n+1,u=>if (nxtU W bs frm to u).1.isSome=true then clsF W bs frm to n (outU bs u (nxtU W bs frm to u)) else(u,(nxtU W bs frm to u).2)
def clsA (W:List (Crg×Crg)) (bs:List Bdr) (frm to:Int):List Int×List Bool:=clsF W bs frm to (W.length+1) (List.replicate bs.length 0)
def wlkT (W:List (Crg×Crg)) (u:List Int) (cell:Int) (i:Nat):Bool:=!decide (uI u i=0)&&decide ((dirC W u i).frm=cell)
def wlkI (W:List (Crg×Crg)) (u:List Int) (cell:Int):Option Nat:=(List.range W.length).find? (wlkT W u cell)
def wlkF (W:List (Crg×Crg)) (to:Int):Nat→List Int→Int→List Crg×List Int
 | 0,u,_=>([],u)
 | n+1,u,cell=>if cell=to then([],u) else
  match wlkI W u cell with
  | none=>([],u)
  | some i=>(dirC W u i :: (wlkF W to n (u.set i 0) (dirC W u i).to).1,(wlkF W to n (u.set i 0) (dirC W u i).to).2)
def nzU (u:List Int):Nat:=u.countP λ z=>!decide (z=0)
def wlkA (W:List (Crg×Crg)) (to:Int) (u:List Int) (cell:Int):List Crg×List Int:=wlkF W to (nzU u+1) u cell
def wksF (W:List (Crg×Crg)) (frm to:Int):Nat→List Int→List (List Crg)
 | 0,_=>[]
 | k+1,u=>(wlkA W to u frm).1 :: wksF W frm to k (wlkA W to u frm).2
abbrev stpL (l:List Crg):List (Int×Int):=l.map λ c=>(c.brd,c.way)
section
variable {W:List (Crg×Crg)} {bs:List Bdr} {u:List Int} {frm to cell:Int} {k:Int} {n i:Nat}
theorem zEJ (h:(nxtU W bs frm to u).1.isSome=true):clsF W bs frm to (n+1) u=clsF W bs frm to n (outU bs u (nxtU W bs frm to u)):=by rw [clsF,if_pos h]
theorem zEI (h:(nxtU W bs frm to u).1.isSome=false):clsF W bs frm to (n+1) u=(u,(nxtU W bs frm to u).2):=by rw [clsF,if_neg (by rw [h];exact fT)]
theorem zD5 (hp:zyI W bs) (h0:0≤frm) (h1:frm<40):(nxtU W bs frm to u).2.length=40∧More (List.replicate 40 false) (nxtU W bs frm to u).2 ∧
  (∀ l,(nxtU W bs frm to u).1=some l→Fnd W bs u to (List.replicate 40 false) frm l) ∧
  ((nxtU W bs frm to u).1=none→Shut W bs u to (List.replicate 40 false) (nxtU W bs frm to u).2∧(nxtU W bs frm to u).2.getD frm.toNat false=true):=zBB (bs:=bs) (u:=u) (to:=to) (zzl hp) 40 (List.replicate 40 false) frm (Nat.le_of_eq zAn) (List.length_replicate ..) h0 h1 zAE
theorem zGr (hp:zyI W bs) (h0:0≤frm) (h1:frm<40) (hf:Flw W frm to u k) (h:(nxtU W bs frm to u).1.isSome=true):Flw W frm to (outU bs u (nxtU W bs frm to u)) (k+1):=by
 obtain⟨p,hq⟩:=Option.isSome_iff_exists.1 h
 rw [zAP hq]
 exact zFI hp hf ((zD5 hp h0 h1).2.2.1 p hq)
theorem zGq (hp:zyI W bs) (h0:0≤frm) (h1:frm<40) (h2:0≤to) (h:(nxtU W bs frm to u).1.isSome=false):Clo W bs u frm to (nxtU W bs frm to u).2:=by
 have hq:(nxtU W bs frm to u).1=none:=by
  cases e:(nxtU W bs frm to u).1 with
  | none=>rfl
  | some p=>rw [e] at h;cases h
 obtain⟨a,b⟩:=(zD5 hp h0 h1).2.2.2 hq
 exact zG9 (zzl hp) h2 a b
theorem zGs (hp:zyI W bs) (h0:0≤frm) (h1:frm<40):(nxtU W bs frm to u).2.length=40:=(zD5 hp h0 h1).1
theorem zEL (hp:zyI W bs):Flw W frm to (List.replicate bs.length 0) 0:=by
 have hz:∀ i,uI (List.replicate bs.length 0) i=0:=λ i=>by
  unfold uI
  rw [gE,List.getElem?_replicate]
  split <;> rfl
 refine⟨⟨by rw [List.length_replicate];exact hp.len.symm,λ i _=>.inl (hz i)⟩,λ f=>?_⟩
 unfold netF
 rw [zzE (h:=λ _=>0) (λ i _=>by rw [hz,Int.zero_mul]),zAS,Int.zero_mul]
theorem zGC (hr:Rng W u) (i:Nat):-1≤u.getD i 0∧u.getD i 0≤1:=by
 by_cases hi:i<W.length
 ·have:=hr.rng i hi
  unfold uI at this
  omega
 ·rw [gE,List.getElem?_eq_none (by rw [hr.len];omega)]
  decide
structure Mid (W:List (Crg×Crg)) (frm to:Int) (u:List Int) (cell k:Int):Prop extends Rng W u where
 net:∀ f,netF W u f=k*(f frm - f to)+(f cell - f to)
theorem zD1 (h:Flw W frm to u (k+1)):Mid W frm to u frm k:=⟨h.toRng,λ f=>by rw [h.net,Int.add_mul,Int.one_mul]⟩
theorem zGn (h:Mid W frm to u to k):Flw W frm to u k:=⟨h.toRng,λ f=>by rw [h.net];omega⟩
theorem zGo (hp:zyI W bs) (hk:0≤k) (h:Mid W frm to u cell k) (hne:cell≠to):∃ i,i<W.length∧wlkT W u cell i=true:=by
 have hn:=h.net (λ x=>if x=cell then 1 else 0)
 simp only [if_pos,if_neg (λ e:to=cell=>hne e.symm)] at hn
 have hpos:0<netF W u (λ x=>if x=cell then 1 else 0):=by
  rw [hn]
  have:0≤k*((if frm=cell then(1:Int) else 0) - 0):=Int.mul_nonneg hk (by split <;> decide)
  omega
 obtain⟨i,hi,hp1⟩:=zFc hpos
 refine⟨i,hi,?_⟩
 have f1:=hp.fst i hi
 have f2:=hp.snd i hi
 unfold wlkT dirC
 simp only [] at hp1
 rcases h.rng i hi with hu|hu|hu
 ·rw [hu,Int.zero_mul] at hp1;omega
 ·rw [hu.1,Int.one_mul] at hp1
  have hc:(fstC W i).frm=cell:=by
   refine Classical.byContradiction λ e=>?_
   rw [if_neg e] at hp1
   split at hp1 <;> omega
  rw [hu.1,if_neg (by decide),decide_eq_true hc];rfl
 ·rw [hu.1] at hp1
  have hc:(fstC W i).to=cell:=by
   refine Classical.byContradiction λ e=>?_
   rw [if_neg e] at hp1
   split at hp1 <;> omega
  rw [hu.1,if_pos I,decide_eq_true (show(sndC W i).frm=cell by rw [f2.2.1,←f1.2.2];exact hc)];rfl
theorem zCY (hp:zyI W bs) (h:Mid W frm to u cell k) (hi:i<W.length) (ht:wlkT W u cell i=true):Mid W frm to (u.set i 0) (dirC W u i).to k:=by
 have hsg:=λ j=>zAx (u:=u) (i:=i) (j:=j) (v:=0) (by rw [h.len];exact hi)
 unfold wlkT at ht
 simp only [aT,nT,dF,dT] at ht
 obtain⟨hu,hc⟩:=ht
 refine⟨⟨by rw [List.length_set];exact h.len,λ j hj=>?_⟩,λ f=>?_⟩
 ·rw [hsg]
  by_cases e:j=i
  ·rw [if_pos e];exact .inl I
  ·rw [if_neg e];exact h.rng j hj
 ·have f1:=hp.fst i hi
  have f2:=hp.snd i hi
  rw [zD4 h.len hi,h.net f]
  unfold dirC at hc ⊢
  rcases h.rng i hi with g|g|g
  ·exact absurd g hu
  ·rw [g.1,if_neg (by decide)] at hc ⊢
   rw [hc];omega
  ·rw [g.1,if_pos I] at hc ⊢
   rw [show(fstC W i).frm=(sndC W i).to from by rw [f1.2.1,f2.2.2],show(fstC W i).to=cell from by rw [←hc,f2.2.1,f1.2.2]];omega
theorem zD6 (hi:i<u.length) (hu:uI u i≠0):nzU (u.set i 0)+1=nzU u:=by
 unfold nzU
 induction u generalizing i with
 | nil=>simp at hi
 | cons z u ih=>
  cases i with
  | zero=>
   have hz:z≠0:=by simpa [uI] using hu
   simp [hz]
  | succ i=>
   have h3:=ih (i:=i) (by simpa using hi) (by simpa [uI] using hu)
   rw [List.set_cons_succ,List.countP_cons,List.countP_cons]
   omega
theorem zH8 (hi:i<W.length) (ht:wlkT W u cell i=true) (hb:∀ j,j<i→wlkT W u cell j=false):wlkI W u cell=some i:=by
 unfold wlkI
 rw [List.find?_range_eq_some]
 exact⟨ht,List.mem_range.2 hi,λ j hj=>by rw [hb j hj];rfl⟩
theorem zHr (ht:wlkT W u cell i=true):uI u i≠0∧(dirC W u i).frm=cell:=by
 unfold wlkT at ht
 simpa using ht
theorem zGM:wlkA W to u to=([],u):=by
 unfold wlkA
 rw [wlkF,if_pos I]
theorem zC4 (hl:u.length=W.length) (hne:cell≠to) (hi:i<W.length) (ht:wlkT W u cell i=true) (hb:∀ j,j<i→wlkT W u cell j=false):wlkA W to u cell=(dirC W u i :: (wlkA W to (u.set i 0) (dirC W u i).to).1,(wlkA W to (u.set i 0) (dirC W u i).to).2):=by
 have hn:=zD6 (u:=u) (i:=i) (by omega) (zHr ht).1
 unfold wlkA
 rw [←hn,wlkF,if_neg hne,zH8 hi ht hb]
end
abbrev WkR:=List (Int×Int)×Option Addr×Nat
abbrev zBI (z:WkR):List Value:=[.slice z.2.1 z.1.length z.2.2]
theorem zBm:Enc 1 zBI:=⟨λ _=>rfl,λ _=>rfl,by decide⟩
section
variable (S:List ShC) (V:List WlC) (cs:List ByteArray) (bs:List Bdr) (x:Anm)
def prtE (frm to:Int):Int:=if atE S V cs bs x [frm,to]=0 then(if frm=to then 3 else 0) else atE S V cs bs x [frm,to]
end
section
variable {S:List ShC} {V:List WlC} {cs:List ByteArray} {bs:List Bdr} {x:Anm} {W:List (Crg×Crg)} {u:List Int} {r:Sst} {i:Nat} {frm to:Int}
theorem zGv (h:r.1.isSome=false):outU bs u r=u:=zAO (by cases e:r.1 with|none=>rfl|some p=>rw [e] at h;cases h)
theorem zE1:(outU bs u r).length=u.length:=by
 unfold outU
 split
 ·exact zzg _
 ·rfl
theorem zFZ (hi:i<W.length):dirC W u i∈allC W:=by
 unfold dirC
 split
 ·exact zBe hi
 ·exact zBd hi
theorem zBa (h:zym S V cs bs x=true):zyI (zyj S V bs x) bs:=by
 obtain⟨_,hc,_,_,_,hb⟩:=zzD h
 have hl:(zyj S V bs x).length=bs.length:=zz5
 have hg:∀ i,i<(zyj S V bs x).length→(zyj S V bs x).getD i default=wayB S V x i (bs.getD i default):=λ i hi=>by
  rw [hl] at hi
  unfold zyj
  rw [gE,List.getElem?_map,List.getElem?_range hi];rfl
 refine⟨hl,λ i hi=>?_,λ i hi=>?_,λ i hi=>(zzq (hb i (by omega))).2.2.2.1,λ i hi=>?_⟩
 ·unfold fstC;rw [hg i hi];exact⟨rfl,rfl,rfl⟩
 ·unfold sndC;rw [hg i hi];exact⟨rfl,rfl,rfl⟩
 ·have:=zzq (hb i (by omega))
  omega
theorem zFe (h:zym S V cs bs x=true):ToOk (zyj S V bs x):=by
 have hp:=zBa h
 intro p hp1
 obtain⟨i,hi,rfl⟩:=List.getElem_of_mem hp1
 have e:(zyj S V bs x)[i]=(zyj S V bs x).getD i default:=by rw [gE,eG hi];rfl
 rw [e]
 exact⟨(zzl hp _ (zBd hi)).2,(zzl hp _ (zBe hi)).2⟩
theorem zDr {l:List Int} (h:atE S V cs bs x l=0):zym S V cs bs x=true∧l.any (outC cs.length)=false∧cs.length≤40∧bs.length≤80:=by
 by_cases hok:zym S V cs bs x=true
 ·cases ho:l.any (outC cs.length) with
  | true=>rw [zDt hok ho] at h;cases h
  | false=>
   have hc:=(zzD hok).2
   exact⟨hok,rfl,hc.1.2,hc.2.1⟩
 ·rw [zFG hok] at h;cases h
theorem zCw {l:List Int} {n:Nat} (h:l.any (outC n)=false):∀ z∈l,0≤z∧z<(n:Int):=λ z hz=>by
 have:=List.any_eq_false.1 h z hz
 exact zDY (by simpa [outC] using this)
theorem zHN:nzU u≤u.length:=List.countP_le_length
end
end Go.Fld
namespace Go.Proofs.YteepmmghanbllaaGreatDoor
open Go.K Go.Stn Go.Pln Go.Fld Go.RowKit
theorem en46:En Tryz.prog 46:=eK Tryz.func46
theorem en47:En Tryz.prog 47:=eK Tryz.func47
theorem en48:En Tryz.prog 48:=eK Tryz.func48
theorem zF0 {w:World}:Has w Emp:=⟨λ _=>False,λ _ h=>h.elim,trivial⟩
theorem zG0 {S:List ShC} {V:List WlC} {cs:List ByteArray} {bs:List Bdr} {x:Anm} {c:Int} (h:atE S V cs bs x [c]=0):zym S V cs bs x=true∧[c].any (outC cs.length)=false∧(0≤c∧c<cs.length)∧cs.length≤40∧bs.length≤80:=by
 by_cases hok:zym S V cs bs x=true
 ·cases ho:[c].any (outC cs.length) with
  | true=>rw [zDt hok ho] at h;cases h
  | false=>
   have hc:=(zzD hok).2
   have:=zDY (n:=cs.length) (i:=c) (by simpa [outC] using ho)
   exact⟨hok,rfl,this,hc.1.2,hc.2.1⟩
 ·rw [zFG hok] at h;cases h
theorem zDf (a:yO) (cap:Nat) (S:List ShC) (b:yO) (bcap:Nat) (V:List WlC) (ca:yO) (ccap:Nat) (cs:List ByteArray) (ba:yO) (bcp:Nat) (bs:List Bdr) (x:Anm) (frm:Int) (w:World) (hl:yag w a S) (hs:zaP S.length) (hcS:S.length≤cap) (hlw:yah w b V) (hsw:zaP V.length) (hsh:yab S w) (hss:yac S) (hwo:yaa V w) (hsv:yae V) (hcp:yad V) (hkn:yaf V) (hc:yai w ca cs) (hcs:zaP cs.length) (hcap:cs.length≤ccap) (hbd:yaj w ba bs) (hbs:zaP bs.length) (hat:atE S V cs bs x [frm]=0) :
  Calls Tryz.prog 15 #[zzz3 a S cap b V bcap,zzz4 ca cs ccap ba bs bcp,zzz1 x,O frm] w (zcU (λ z:Option Addr×Nat=>.tuple #[C z.1 (zAs (zze (zyj S V bs x) (λ _=>true) frm) 40).length z.2,O 0]) (λ z=>Row z.1 1 z.2 3 D (zAs (zze (zyj S V bs x) (λ _=>true) frm) 40)) w):=by
 obtain⟨hok,hin,⟨r0,r1⟩,r2,r3⟩:=zG0 hat
 refine zan (vs:=[_,_,_,_]) Tryz.func15 I I (bL I) (gS (zaG I I (za3 (vs:=[_,_]) I I) λ b4=>(zaG I I (za3 (vs:=[_,_]) I I) λ b5=>(zaG I I (za3 (vs:=[_,_,_,_,_]) I I) λ b6=>(gA I (gA I (gN [3,4,5,6,8,9] I (gS (gQ (zat 2 tf37 I I (vs:=[_,_]) I I) (gQ (zat 1 tf40 I I (vs:=[_,_]) I I) (gQ (zat 0 tf41 I I (vs:=[_,_,_,_,_]) I I) (gM I (zaG I I (zaD I (zA3 _) Go.Stn.encI_ok I) λ b20=>(zaG I I (zbm en46 I (λ w hw=>zFH _ _ S _ _ V _ _ cs _ _ bs x _ _ [frm] w (rH hl hw) hs hcS (rH hlw hw) hsw (λ z hz=>(rH (hsh z hz) hw)) hss (λ z hz=>(rH (hwo z hz) hw)) hsv hcp hkn (rH hc hw) hcs hcap (rH hbd hw) hbs (zam Go.Stn.encI_ok (hw.has (p:=0) I)) (by simp [zaP]) hok hin)) λ p21=>(gM I (gQ (zaB I I) (gQ (zaB I I) (gA I (gA I (gN [3,8,9,10,11] I ?_))))))))))))))))))))
 obtain⟨lb,⟨wa,wc⟩,⟨fa,fc⟩,F⟩:=p21
 refine zz4 λ hF=>zbP ?_
 have hF:F.map (·.2)=(zzS S V bs x):=hF
 refine zac (gS (gM I (gQ (zcr I I) (gN [3,8,9,10,11,25] I (zd8 I (zaq (gS (gA I (gN [3,8,9,10,12] I (zac (gS (gM I (gM I (gQ (zaJ en47 I (λ w hw=>zE8 ca ccap cs ba bcp bs lb wa fa wc fc (zyj S V bs x) F (λ _=>true) 48 [] Emp frm w r0 (by omega) (hw.has (p:=0) I) (zam zyl (hw.has (p:=1) I)) zF0 (by rw [zz5];unfold zaP;omega) (zFe hok) en48 (λ c w' _=>zHw c w'))) (gM I (gN [8,9,12,29,30] I (zas (zbB 3 D 1 ?_))))))))))))))))))
 refine zbf (X:=Int×Option Addr×Nat×List Int) (λ⟨i,ra,rc,N⟩=>[(8,C none 0 0),(9,O 0),(12,C ra N.length rc),(29,.agg (bls (zze (zyj S V bs x) (λ _=>true) frm)).toArray),(30,O i)]) (λ⟨i,ra,rc,N⟩=>[Row ra 1 rc 3 D N,Box lb [C ca cs.length ccap,C ba bs.length bcp,C wa (zyj S V bs x).length wc,C fa (F.map (·.1)).length fc] 128,Row wa 10 wc 148 zyw (zyj S V bs x),Row fa 1 fc 124 zy6 (F.map (·.1)),Go.K.Rows rowM F,Row (some ⟨b20,0,none⟩) 1 1 3 D [frm],Box b6 (zzz2 x) 41,Box b5 (zzz6 ca cs ccap ba bs bcp) 40,Box b4 (zzz5 a S cap b V bcap) 37]) (λ⟨i,ra,rc,N⟩=>((0≤i∧i≤40)∧N.length≤40∧N=(zAs (zze (zyj S V bs x) (λ _=>true) frm) i.toNat))) (λ⟨i,ra,rc,N⟩=>(40 - i).toNat) (0,none,0,[]) (sB I) I ?_ ?_
 ·exact⟨⟨by omega,by omega⟩,by simp,rfl⟩
 ·rintro ⟨i,ra,rc,N⟩ hI
  obtain⟨g0,g1,g2⟩:=hI
  have hnl:N.length≤i.toNat:=by rw [g2];exact zEq
  refine gS (gQ (zbw I I) (gN [8,9,12,29,30,31] I (zac (zap I (λ hc31=>?_) (λ hc31=>?_)))))
  ·have hc31:=oT hc31
   refine zaq (zac (zas (gS (gM I (gQ (zEv zAW tf4 I I zy3 (by omega) (by omega)) (gA I (gA I (gN [8,9,12,13,14,29,30] I (gS (gM I (gN [8,9,12,13,29,30,34] I (zap I (λ hc34=>?_) (λ hc34=>?_)))))))))))))
   ·have hst:=zEr (l:=(zze (zyj S V bs x) (λ _=>true) frm)) (n:=i.toNat) hc34
    refine zaa (gM I (gM I (zaG I I (zaD I (zA3 _) Go.Stn.encI_ok I) λ b37=>(zb4 (m:=[i]) 1 af45 Go.Stn.encI_ok I I I I (λ _ hw=>(zam Go.Stn.encI_ok (hw.has (p:=0) I))) (by first|omega|(simp only [lC,lN];omega)) (by first|(unfold maxLen;omega)|(simp only [lC,lN,maxLen];omega)) λ a38 c38=>(gA I (gN [8,9,12,29,30] I (zaa (gQ (zaY I I) (gM I (gN [8,9,12,29,30] I (zaK 0 I ?_)))))))))))
    exact za1 (i+1,_,_,_) (sB I) I ⟨by omega,by first|omega|(rw [lA];simp only [lC,lN];omega),by rw [show(i+1).toNat=i.toNat+1 from by omega,hst,←g2] <;> first|rfl|rw [tN g0.1]⟩ (by simp only [];omega)
   ·have hst:=zFf (l:=(zze (zyj S V bs x) (λ _=>true) frm)) (n:=i.toNat) hc34
    refine zaq (zaa (gQ (zaY I I) (gM I (gN [8,9,12,29,30] I ?_))))
    exact za1 (i+1,_,_,_) (sB I) I ⟨by omega,by first|omega|(rw [lA];simp only [lC,lN];omega),by rw [show(i+1).toNat=i.toNat+1 from by omega,hst,←g2] <;> first|rfl|rw [tN g0.1]⟩ (by simp only [];omega)
  ·have hc31:=oD hc31
   have hend:i.toNat=40:=by omega
   rw [hend] at g2
   refine za8 I (gS (gM I (gA I (gA I (gN [8,9] I (zaw (zbd (ra,rc) 0 (zc2 I (zau I) (zau I)) ?_ (by rw [g2];rfl))))))))
   rw [g2]
theorem zDe (a:yO) (cap:Nat) (S:List ShC) (b:yO) (bcap:Nat) (V:List WlC) (ca:yO) (ccap:Nat) (cs:List ByteArray) (ba:yO) (bcp:Nat) (bs:List Bdr) (x:Anm) (frm:Int) (w:World) (hl:yag w a S) (hs:zaP S.length) (hcS:S.length≤cap) (hlw:yah w b V) (hsw:zaP V.length) (hsh:yab S w) (hss:yac S) (hwo:yaa V w) (hsv:yae V) (hcp:yad V) (hkn:yaf V) (hc:yai w ca cs) (hcs:zaP cs.length) (hcap:cs.length≤ccap) (hbd:yaj w ba bs) (hbs:zaP bs.length) (hne:¬ atE S V cs bs x [frm]=0) :
  Calls Tryz.prog 15 #[zzz3 a S cap b V bcap,zzz4 ca cs ccap ba bs bcp,zzz1 x,O frm] w (Pure (.tuple #[C none 0 0,O (atE S V cs bs x [frm])]) w):=by
 refine zan (vs:=[_,_,_,_]) Tryz.func15 I I (bL I) (gS (zaG I I (za3 (vs:=[_,_]) I I) λ b4=>(zaG I I (za3 (vs:=[_,_]) I I) λ b5=>(zaG I I (za3 (vs:=[_,_,_,_,_]) I I) λ b6=>(gA I (gA I (gN [3,4,5,6,8,9] I (gS (gQ (zat 2 tf37 I I (vs:=[_,_]) I I) (gQ (zat 1 tf40 I I (vs:=[_,_]) I I) (gQ (zat 0 tf41 I I (vs:=[_,_,_,_,_]) I I) (gM I (zaG I I (zaD I (zA3 _) Go.Stn.encI_ok I) λ b20=>(zaG I I (zbm en46 I (λ w hw=>zDs _ _ S _ _ V _ _ cs _ _ bs x _ _ [frm] w (rH hl hw) hs hcS (rH hlw hw) hsw (λ z hz=>(rH (hsh z hz) hw)) hss (λ z hz=>(rH (hwo z hz) hw)) hsv hcp hkn (rH hc hw) hcs hcap (rH hbd hw) hbs (zam Go.Stn.encI_ok (hw.has (p:=0) I)) (by simp [zaP]) hne)) λ p21=>(gM I (gQ (zaB I I) (gQ (zaB I I) (gA I (gA I (gN [3,8,9,10,11] I (zac (gS (gM I (gQ (zcr I I) (gN [3,8,9,10,11,25] I (zap I (λ hc25=>?_) (λ hc25=>?_)))))))))))))))))))))))))))
 ·simp only [nT,dF] at hc25
  refine gS (gM I (gA I (gA I (gN [3,8,9,10] I (zaw (zay (zc2 I (zau I) (zau I)) ?_))))))
  rfl
 ·exfalso;exact hne (by simpa using hc25)
end Go.Proofs.YteepmmghanbllaaGreatDoor
namespace Go.K
open Go Go.RowKit
section
variable {F:Fence} {n:Nat} {P:Program} {Q:Exit→Act→World→Prop} {b:Frame} {a:Act} {k:List Item} {cs:List Frame} {w:World}
def zEx (Q:Exit→Act→World→Prop):Exit→Act→World→Prop
 | .goto _,_,_=>False
 | e,a,w=>Q e a w
theorem zyO {c:Code}:step P (lone (b.atR a (.code (.scope c) :: k)) cs w)=.next (lone (b.atR a (.code c :: .inScope c :: k)) cs w):=
 step_lone_go (by simp [stepG,stepG.exec,Frame.atR])
theorem zFb {c:Code}:step P (lone (b.atR a (.inScope c :: k)) cs w)=.next (lone (b.atR a k) cs w):=
 step_lone_go (by simp [stepG,stepG.exec,Frame.atR])
theorem zEu {c:Code} (h:c.wpIn F n P (zEx Q) a w):(Code.scope c).wpIn F n P Q a w:=by
 intro b k cs hro hb hr
 have h0:(lone (b.atR a (.code (.scope c) :: k)) cs w).fenced P F:=fenced_calm hb hr I
 obtain⟨e,a₁,w₁,hq,harr⟩:=h b (.inScope c :: k) cs hro hb hr
 cases e with
 | normal=>exact⟨.normal,a₁,w₁,hq,.head h0 zyO (StepsIn.trans harr (.one (fenced_calm hb hr I) zFb))⟩
 | exit id=>
  have hx:exitTo id (.inScope c :: k)=exitTo id k:=by simp [exitTo]
  exact⟨.exit id,a₁,w₁,hq,λ k' hk=>.head h0 zyO (harr.1 k' (by rw [hx];exact hk)),λ hr' hk=>let ⟨k₁,h1,h2⟩:=harr.2 hr' (by rw [hx];exact hk);⟨k₁,h1,.head h0 zyO h2⟩⟩
 | goto l=>exact hq.elim
 | ret=>exact⟨_,a₁,w₁,hq,.of_steps (.one h0 zyO) harr⟩
 | panic ch=>exact⟨_,a₁,w₁,hq,.of_steps (.one h0 zyO) harr⟩
 | outgrown=>exact⟨_,a₁,w₁,hq,.of_steps (.one h0 zyO) harr⟩
end
section
variable {c:Cx} {ds:List Deferred} {p:Post} {T:List (Nat×Value)} {H:List Res}
theorem zEQ {x:Code} (h:GK c ds (KC c x p) T H):GK c ds (KC c (.scope x) p) T H:=λ a w ha hw=>
 zEu (Go.wpIn_mono (h a w ha hw) λ e a w hq=>by cases e <;> first|exact hq|exact hq.elim)
theorem zEP {l:Nat} (h:GK c ds p.nrm T H):GK c ds (KC c (.label l) p) T H:=λ a w ha hw=>wpIn_label (h a w ha hw)
end
theorem zBQ {zs:List Value} {k:Nat} (hl:zs.length=k):∀ n:Nat,(List.range (n*k)).map (λ j=>zs.toArray[j % zs.toArray.size]!)=(List.replicate n zs).flatten
 | 0=>by simp
 | n+1=>by
  rw [Nat.add_mul,Nat.one_mul,List.range_add,List.map_append,zBQ hl n,List.replicate_succ',List.flatten_append]
  congr 1
  rw [List.map_map,List.flatten_singleton]
  apply List.ext_getElem
  ·simp [hl]
  ·intro i h1 h2
   rw [List.getElem_map,List.getElem_range]
   show zs.toArray[(n*k+i) % zs.toArray.size]! = _
   have hs:zs.toArray.size=k:=by simpa using hl
   rw [hs,Nat.mul_add_mod_self_right,Nat.mod_eq_of_lt (by omega)]
   rw [getElem!_pos zs.toArray i (by omega)]
   simp
section
variable {α:Type} {enc:α→List Value} {c:Cx} {ds:List Deferred} {T:List (Nat×Value)} {H:List Res} {d:Option Nat} {ty:TypeId} {ps:String} {af:Array Edge} {g:Option (Nat×Bool)} {x y:Operand}
theorem zB1 {t e:TypeId} {k by_ n:Nat} {zs:List Value} {kd kd2:IntKind} (z0:α) (ht:AF c.P t e k by_ zs) (hx:evo T x=some (.int kd (n:Int))) (hy:evo T y=some (.int kd2 (n:Int))) (he:Enc k enc) (hz:enc z0=zs) (hb:by_*n≤281474976710656) (hn:(n:Int)≤9223372036854775807) :
  YX c ds H T ⟨d,.makeSlice t x y,ty,ps,af,g⟩ (λ b=>.slice (some ⟨b,0,none⟩) (List.replicate n z0).length n) (λ b=>Row (some ⟨b,0,none⟩) k n e enc (List.replicate n z0)):=by
 refine⟨λ a w ha hw=>?_⟩
 unfold Yld
 have hlen:((List.replicate n z0).flatMap enc).length=n*k:=by rw [zcd he,List.length_replicate]
 have hrun:(execOp a.eval ⟨d,.makeSlice t x y,ty,ps,af,g⟩).run c.P w=.ok (.value (.slice (some ⟨w.heap.size,0,none⟩) (List.replicate n z0).length n)) (w.alloc (.cells ((List.replicate n z0).flatMap enc).toArray e)):=by
  simp only [execOp,ha.eval hx,ha.eval hy]
  refine zbu ?_
  have hi:=ht.i
  cases hu:c.P.info? e with
  | none=>rw [hu] at hi;cases hi
  | some i=>
   rw [hu] at hi
   simp only [Option.map_some,sI,Prod.mk.injEq] at hi
   obtain⟨i1,i2,i3⟩:=hi
   cases hzv:i.zero with
   | none=>rw [hzv] at i3;cases i3
   | some z=>
    rw [hzv,Option.map_some,sI] at i3
    have h:=run_make (P:=c.P) (w:=w) t e i z ht.u hu hzv kd kd2 (n:Int) (n:Int) (by omega) (by omega) (by rw [i2];have h5:((by_*n:Nat):Int)≤((281474976710656:Nat):Int):=Int.ofNat_le.2 hb;rw [Int.natCast_mul] at h5;exact h5) hn
    rw [h]
    have hc:madeCells z.cells ((n:Int).toNat*i.size)=((List.replicate n z0).flatMap enc).toArray:=by
     rw [i1,Int.toNat_natCast]
     apply Array.toList_inj.1
     have hzc:z.cells=zs.toArray:=by rw [←i3]
     rw [hzc]
     unfold madeCells
     rw [Array.toList_map,Array.toList_range,zBQ ht.zl]
     show _=(List.replicate n z0).flatMap enc
     rw [List.flatMap_def,List.map_replicate,hz]
    rw [hc,List.length_replicate,Int.toNat_natCast]
 rw [hrun]
 refine⟨w.heap.size,rfl,zcG _,(· = w.heap.size),λ k hk=>by subst hk;simp,.inr ⟨w.heap.size,0,(List.replicate n z0).flatMap enc,rfl,λ _=>Iff.rfl,World.alloc_heap_new w _,Nat.le_of_eq (List.length_replicate ..),?_,?_⟩⟩
 ·rw [hlen,Nat.zero_add];exact Nat.le_refl _
 ·rw [List.drop_zero,List.length_replicate,←hlen,List.take_length]
end
end Go.K
namespace Go.Proofs.YteepmmghanbllaaGreatDoor
open Go.K Go.Stn Go.Pln Go.Fld Go.RowKit
theorem zDl:TF Tryz.prog 145 false 1 (.nilFunc):=tK
theorem zEo:TF Tryz.prog 146 false 1 (.nilFunc):=tK
theorem zAd:FO Tryz.prog 144 2 2:=fK
theorem en55:En Tryz.prog 55:=eK Tryz.func55
theorem en56:En Tryz.prog 56:=eK Tryz.func56
theorem zFh (ca:yO) (ccap:Nat) (cs:List ByteArray) (ba:yO) (bcp:Nat) (bs:List Bdr) (mb:Nat) (c:Crg) (w:World) (hmb:Has w (Box mb (zzz6 ca cs ccap ba bs bcp) 40)) (hbd:yaj w ba bs) (_hbs:bs.length≤80) (h0:0≤c.brd) (h1:c.brd<bs.length) :
  Calls Tryz.prog 55 #[.agg #[O c.frm,O c.to,O c.brd,O c.way,O c.eff],Z mb] w (Pure (O (sgnC bs c)) w):=by
 refine zan (vs:=[_,_]) Tryz.func55 I I (bL I) (gS (zaG I I (za3 (vs:=[_,_,_,_,_]) I I) λ b2=>(gA I (gN [1,2,3] I (zac (zac (gZ 10 (ph_y (zab zza I) (ph_y (zah 0 tf3 I I I) (ph_y (zab zz1 I) (ph_y (zbW tf38 I (λ _ hw=>zaQ (rH hmb hw) I)) (ph_y (zab zAd I) (ph_y (zah 0 tf3 I I I) (ph_y (zaE se38 I I (λ _=>rH hbd)) (ph_y (zbh zBK I (λ w hw=>zaO (i:=c.brd) (rH hbd hw))) (ph_y (zbn tf3 I (λ _=>rH hbd) (by omega) (by omega) I) (ph_y (zbL I I) (gN [3,13] I (zap I (λ hc13=>?_) (λ hc13=>?_))))))))))))))))))))
 ·have hc13:=oT hc13
  refine gS (gA I (gN [3] I (zaw (zay (zaC I (zau I)) ?_))))
  unfold sgnC;rw [if_pos hc13]
 ·have hc13:=oD hc13
  refine zaq (gS (gA I (gN [3] I (zaw (zay (zaC I (zau I)) ?_)))))
  unfold sgnC;rw [if_neg hc13]
def zGP (n:Nat) (ca:Option Addr) (ccap:Nat) (cs:List ByteArray) (ba:Option Addr) (bcp:Nat) (bs:List Bdr) (lb:Nat) (wa fa:Option Addr) (wc fc:Nat) (W:List (Crg×Crg)) (F:List (Nat×List (Bool×Bool))) (u:List Int) (ua:Option Addr) (uc:Nat) (to:Int) (sb bt bl bu bw bp mb:Nat):Prop:=
 ∀ (s:List Bool) (cell:Int) (w:World) (B:Nat→Prop),unseen s≤n→s.length=40→s.getD cell.toNat false=false→0≤cell→cell<40→(∀ k,B k→k<w.heap.size)→(SepR [Box sb (bls s) 110,Row ua 1 uc 3 D u]).A B w →
  Rd (λ k=>k<w.heap.size∧¬ B k) w (Box bt [O to] 3)→Rd (λ k=>k<w.heap.size∧¬ B k) w (Box bl [Z lb] 106)→Rd (λ k=>k<w.heap.size∧¬ B k) w (Box bu [C ua u.length uc] 45)→Rd (λ k=>k<w.heap.size∧¬ B k) w (Box bw [.func (.func 55) #[] #[Z mb]] 145)→Rd (λ k=>k<w.heap.size∧¬ B k) w (Box bp [.func (.func 56) #[] #[Z bt,Z bl,Z bu,Z bw,Z bp]] 146)→Rd (λ k=>k<w.heap.size∧¬ B k) w (Box lb [C ca cs.length ccap,C ba bs.length bcp,C wa W.length wc,C fa (F.map (·.1)).length fc] 128)→Rd (λ k=>k<w.heap.size∧¬ B k) w (zaW wa 10 zyw W)→Rd (λ k=>k<w.heap.size∧¬ B k) w (Box mb (zzz6 ca cs ccap ba bs bcp) 40)→Rd (λ k=>k<w.heap.size∧¬ B k) w (zaW ba 6 zyr bs) →
  Calls Tryz.prog 56 #[O cell,Z sb,Z bt,Z bl,Z bu,Z bw,Z bp] w (zho (λ _:Unit=>.bool (zyy W bs u to n s cell).1.isSome) (λ _=>SepR [Box sb (bls (zyy W bs u to n s cell).2) 110,Row ua 1 uc 3 D (outU bs u (zyy W bs u to n s cell))]) (λ _=>True) B w)
theorem zD9 (ca:yO) (ccap:Nat) (cs:List ByteArray) (ba:yO) (bcp:Nat) (bs:List Bdr) (lb:Nat) (wa fa:yO) (wc fc:Nat) (W:List (Crg×Crg)) (F:List (Nat×List (Bool×Bool))) (u:List Int) (ua:yO) (uc:Nat) (to:Int) (sb bt bl bu bw bp mb m:Nat) (hrec:zGP m ca ccap cs ba bcp bs lb wa fa wc fc W F u ua uc to sb bt bl bu bw bp mb) (s:List Bool) (cell:Int) (w:World) (B:Nat→Prop) (hB:yak B w) (hA:(SepR [Box sb (bls s) 110,Row ua 1 uc 3 D u]).A B w) (hus:unseen s≤m+1) (hsl:s.length=40) (hsn:s.getD cell.toNat false=false) (hc0:0≤cell) (hc1:cell<40) (hbt:Rd (λ k=>k<w.heap.size∧¬ B k) w (Box bt [O to] 3)) (hbl:Rd (λ k=>k<w.heap.size∧¬ B k) w (Box bl [Z lb] 106)) (hbu:Rd (λ k=>k<w.heap.size∧¬ B k) w (Box bu [C ua u.length uc] 45)) (hbw:Rd (λ k=>k<w.heap.size∧¬ B k) w (Box bw [.func (.func 55) #[] #[Z mb]] 145)) (hbp:Rd (λ k=>k<w.heap.size∧¬ B k) w (Box bp [.func (.func 56) #[] #[Z bt,Z bl,Z bu,Z bw,Z bp]] 146)) (hlb:Rd (λ k=>k<w.heap.size∧¬ B k) w (Box lb [C ca cs.length ccap,C ba bs.length bcp,C wa W.length wc,C fa (F.map (·.1)).length fc] 128)) (hWl:Rd (λ k=>k<w.heap.size∧¬ B k) w (zaW wa 10 zyw W)) (hmb:Rd (λ k=>k<w.heap.size∧¬ B k) w (Box mb (zzz6 ca cs ccap ba bs bcp) 40)) (hbd:Rd (λ k=>k<w.heap.size∧¬ B k) w (zaW ba 6 zyr bs)) (_hW:zaP W.length) (hp:zyI W bs) (hul:u.length=bs.length) (hbs:bs.length≤80) (hur:∀ i,-1≤u.getD i 0∧u.getD i 0≤1) :
  Calls Tryz.prog 56 #[O cell,Z sb,Z bt,Z bl,Z bu,Z bw,Z bp] w (zho (λ _:Unit=>.bool (zyy W bs u to (m+1) s cell).1.isSome) (λ _=>SepR [Box sb (bls (zyy W bs u to (m+1) s cell).2) 110,Row ua 1 uc 3 D (outU bs u (zyy W bs u to (m+1) s cell))]) (λ _=>True) B w):=by
 have hu1:=zy4 (s:=s) (i:=cell.toNat) (by omega) hsn
 have hWb:=hp.len
 have hs0c:(s.set cell.toNat true).getD cell.toNat false=true:=by rw [zEi (by omega),if_pos I]
 refine zby hB hA (vs:=[_,_,_,_,_,_,_]) Tryz.func56 I I (bL I) (zbP (gS (gA I (gN [0,1,2,3,4,5,6,9] I (zac (gS (gM I (gQ (zbW tf3 I (λ _ hw=>zaQ (Rd.has hbt hw) I)) (gQ (zbL I I) (gN [0,1,3,4,5,6,9,17] I (zap I (λ hc17=>?_) (λ hc17=>?_))))))))))))
 ·have hct:cell=to:=oT hc17
  refine gS (gA I (gN [0,1,3,4,5,6,9] I (zaw (zao 1 I (zao 1 I (zbT 2 ?_))))))
  have hF1:zyy W bs u to (m+1) s cell=(some [],s):=by rw [zyy,if_pos hct]
  exact zd9 () 0 (zaC I (zau I)) (by rw [hF1];rfl) (by rw [hF1];rfl) trivial
 ·have hne:¬ cell=to:=oD hc17
  refine zaq (gS (gM I (gM I (gQ (zbx I) (gQ (zyK zAW I I (by omega) (by omega)) (zA9 (l:=s) (i:=cell) (v:=true) 0 tf4 I I I (by omega) (gN [0,1,3,4,5,6,9] I (zac (gS (gQ (zbW zzI I (λ _ hw=>zaQ (Rd.has hbl hw) I)) (gQ (zbx I) (gQ (zab zyG I) (gQ (zbW zzV I (λ _ hw=>zaQ (Rd.has hlb hw) I)) (gQ (zaV (Tryz.underlying125) I) (gM I (gN [0,1,4,5,6,9,25,26,27] I (zas (zbf (X:=Int×List Bool) (λ⟨i,t⟩=>[(0,O cell),(1,Z sb),(4,Z bu),(5,Z bw),(6,Z bp),(9,.bool false),(25,C wa W.length wc),(26,O (W.length:Int)),(27,O i)]) (λ⟨i,t⟩=>[Box sb (bls t) 110,Row ua 1 uc 3 D u]) (λ⟨i,t⟩=>((0≤i∧i≤W.length)∧stK (zyy W bs u to m) bs u cell W (s.set cell.toNat true) i.toNat 0=(none,t)∧More (s.set cell.toNat true) t)) (λ⟨i,t⟩=>(W.length - i).toNat) (0,(s.set cell.toNat true)) (sB I) I ?_ ?_))))))))))))))))))
  ·exact⟨⟨by omega,by omega⟩,rfl,More.rfl⟩
  ·rintro ⟨i,t⟩ hI
   obtain⟨⟨g0,g1⟩,g2,g3⟩:=hI
   refine gS (gQ (zbw I I) (gN [0,1,4,5,6,9,25,26,27,28] I (zac (zap I (λ hc28=>?_) (λ hc28=>?_)))))
   ·have hc28:=oT hc28
    refine zaq (zac (zas (gS (gQ (zaE zAg I I (λ _ hw=>(Rd.has hWl hw))) (gQ (zbv (vs:=[_,_,_,_,_,_,_,_,_,_]) zA0 I (λ _ hw=>(Rd.has hWl hw)) (by omega) (by omega) I) (zaG I I (zaL zA0 (zs:=[_,_,_,_,_,_,_,_,_,_]) I) λ b11=>(zbz 0 zA0 I I (vs:=[_,_,_,_,_,_,_,_,_,_]) I I I I I (gN [0,1,4,5,6,9,11,25,26,27] I (gS (gQ (zat 0 zA0 I I (vs:=[_,_,_,_,_,_,_,_,_,_]) I I) (gM I (gN [0,1,4,5,6,9,25,26,27,31,32] I (zas ?_)))))))))))))
    refine zbf (X:=Int×List Bool) (λ⟨k,q⟩=>[(0,O cell),(1,Z sb),(4,Z bu),(5,Z bw),(6,Z bp),(9,.bool false),(25,C wa W.length wc),(26,O (W.length:Int)),(27,O i),(31,.agg #[O (W.getD i.toNat default).1.frm,O (W.getD i.toNat default).1.to,O (W.getD i.toNat default).1.brd,O (W.getD i.toNat default).1.way,O (W.getD i.toNat default).1.eff,O (W.getD i.toNat default).2.frm,O (W.getD i.toNat default).2.to,O (W.getD i.toNat default).2.brd,O (W.getD i.toNat default).2.way,O (W.getD i.toNat default).2.eff]),(32,O k)]) (λ⟨k,q⟩=>[Box b11 [O (W.getD i.toNat default).1.frm,O (W.getD i.toNat default).1.to,O (W.getD i.toNat default).1.brd,O (W.getD i.toNat default).1.way,O (W.getD i.toNat default).1.eff,O (W.getD i.toNat default).2.frm,O (W.getD i.toNat default).2.to,O (W.getD i.toNat default).2.brd,O (W.getD i.toNat default).2.way,O (W.getD i.toNat default).2.eff] 148,Box sb (bls q) 110,Row ua 1 uc 3 D u]) (λ⟨k,q⟩=>(0≤k∧k≤2∧stK (zyy W bs u to m) bs u cell W (s.set cell.toNat true) i.toNat k=(none,q)∧More (s.set cell.toNat true) q)) (λ⟨k,q⟩=>(2 - k).toNat) (0,t) (sB I) I ?_ ?_
    ·exact⟨by decide,by decide,g2,g3⟩
    ·rintro ⟨k,q⟩ hI
     obtain⟨k0,k1,k2,k3⟩:=hI
     have hql:q.length=40:=by rw [k3.len,List.length_set];exact hsl
     have hqu:=k3.unseen
     refine gS (gQ (zbw I I) (gN [0,1,4,5,6,9,25,26,27,31,32,33] I (zac (zap I (λ hc33=>?_) (λ hc33=>?_)))))
     ·have hc33:=oT hc33
      rcases(show k=0∨k=1 by omega) with hk|hk
      ·refine zae (T':=[(0,_),(1,_),(4,_),(5,_),(6,_),(9,_),(25,_),(26,_),(27,_),(31,_),(32,O 0),(33,_)]) ⟨I,I,I,I,I,I,I,I,I,I,(by show some (Value.int .i64 k)=_;rw [hk]),I,trivial⟩ ?_
       rw [hk] at k2
       obtain⟨hb1,hf1,hto1⟩:=hp.fst i.toNat (by omega)
       have hcm:(W.getD i.toNat default).1∈allC W:=zBd (by omega)
       have hci:=zzl hp _ hcm
       have hb2:(W.getD i.toNat default).1.brd=(i.toNat:Int):=hb1
       refine zaq (zac (zas (gS (gQ (zzF I I (zDZ _ _ _ _ _ _ _ _ _ _)) (zaG I I (zaL zyD (zs:=[_,_,_,_,_]) I) λ b13=>(zaA 0 zyD I I (vs:=[_,_,_,_,_]) I I I I I (gN [0,1,4,5,6,9,13,25,26,27,31,32] I (gS (gQ (zbW tf45 I (λ _ hw=>zaQ (Rd.has hbu hw) I)) (gQ (zab zAd I) (gQ (zah 0 tf3 I I I) (gQ (zaE se45 I I (λ _ hw=>(zam Go.Stn.encI_ok (hw.has (p:=3) I)))) (gQ (zcE tf3 I (λ _ hw=>(zam Go.Stn.encI_ok (hw.has (p:=3) I))) (by omega) (by omega) I) (gA I (gN [0,1,4,5,6,9,13,14,25,26,27,31,32] I (zac (zac (gZ 28 (ph_y (zab zza I) (ph_y (zah 0 tf3 I I I) (ph_y (zaf I) (ph_y (zcr I I) (ph_y (zaf I) (zaz I I (λ jj=>by(try rw [jj]);exact zaf I) (zaz I I (λ jj=>by(try rw [jj]);exact zab zzb I) (zaz I I (λ jj=>by(try rw [jj]);exact zah 0 tf3 I I I) (zaz I I (λ jj=>by(try rw [jj]);exact zbx I) (zaz I I (λ jj=>by(try rw [jj]);exact zyK zAW I I (by omega) (by omega)) ?_))))))))))))))))))))))))))))
       refine zaz I I (λ jj=>by(try rw [jj]);exact zzm (l:=q) (i:=(W.getD i.toNat default).1.to) tf4 I (λ _ hw=>hw.has (p:=2) I) (by omega)) (ph_y (zaR I I I) (ph_y (zaf I) (zaz I I (λ jj=>by(try rw [jj]);exact zaf I) (zaz I I (λ jj=>by(try rw [jj]);exact zbW zDl I (λ _ hw=>zaQ (Rd.has hbw hw) I)) (zaz I I (λ jj=>by(try rw [jj]);exact zat 0 zyD I I (vs:=[_,_,_,_,_]) I I) (zaz I I (λ jj=>by(try rw [jj]);exact zde (v:=O (sgnC bs (W.getD i.toNat default).1)) (fs:=[]) (cap:=[_]) en55 I I (λ w hw=>zFh ca ccap cs ba bcp bs mb (W.getD i.toNat default).1 w (Rd.has hmb hw) (Rd.has hbd hw) hbs (by omega) (by omega))) (zaz I I (λ jj=>by(try rw [jj]);exact zbL I I) (ph_y (zaR I I I) (ph_y (zaf I) (zaz I I (λ jj=>by(try rw [jj]);exact zaf I) (zaz I I (λ jj=>by(try rw [jj]);exact zbL I I) (zaz I I (λ jj=>by(try rw [jj]);exact zaf I) (zdr I I (λ jj=>by(try rw [jj]);exact zab zzk I) (zdr I I (λ jj=>by(try rw [jj]);exact zah 0 tf3 I I I) (zdr I I (λ jj=>by(try rw [jj]);exact zbw I I) (zaz I I (λ jj=>by(try rw [jj]);exact zaX I I I) (ph_y (zaR I I I) ?_)))))))))))))))))
       refine gN [0,1,4,5,6,9,13,25,26,27,31,32,67] I (zap I (λ hc67=>?_) (λ hc67=>?_))
       ·have hgo:=go_f (t:=q) (c:=(W.getD i.toNat default).1) hc67
        refine za8 I (zaa (gQ (zaY I I) (gM I (gN [0,1,4,5,6,9,25,26,27,31,32] I (zaK 0 I ?_)))))
        exact za1 (1,_) (sB I) I ⟨by decide,by decide,by first|exact(by rw [zEm,k2];exact zAy hgo)|exact(by rw [zEm,k2,zzf hgo,show(zyy W bs u to m q (W.getD i.toNat default).1.to).1=none from hp1];rfl),by first|exact k3|exact k3.trans hok2⟩ (by simp only [];omega)
       ·have hgo:=go_t (t:=q) (c:=(W.getD i.toNat default).1) hc67
        obtain⟨hfr,hns,_⟩:(W.getD i.toNat default).1.frm=cell∧q.getD (W.getD i.toNat default).1.to.toNat false=false∧resC bs u (W.getD i.toNat default).1=true:=by have h:=hgo;unfold goC at h;simp only [aT,nT,dT] at h;exact⟨h.1.1,h.1.2,h.2⟩
        obtain⟨hok1,hok2,hok3,hok4⟩:=zBB (bs:=bs) (u:=u) (to:=to) (zzl hp) m q (W.getD i.toNat default).1.to (by omega) hql hci.2.1 hci.2.2 hns
        refine zao 3 I (zao 3 I (zbT 2 (zaq (gS (gQ (zbW zEo I (λ _ hw=>zaQ (Rd.has hbp hw) I)) (gQ (zab zzb I) (gQ (zah 1 tf3 I I I) (gM I (zkZ (fs:=[]) (cap:=[_,_,_,_,_]) 0 en56 I I I I (λ w B hF=>hrec q (W.getD i.toNat default).1.to w B (by omega) hql hns hci.2.1 hci.2.2 (λ k hk=>(hF.own k hk).2) hF.A (hF.rd hbt) (hF.rd hbl) (hF.rd hbu) (hF.rd hbw) (hF.rd hbp) (hF.rd hlb) (hF.rd hWl) (hF.rd hmb) (hF.rd hbd)) λ u72 hq72=>(gN [0,1,4,5,6,9,13,25,26,27,31,32,72] I (zap I (λ hc72=>?_) (λ hc72=>?_))))))))))))
        ·refine zbP ?_
         obtain⟨p,hp1⟩:=Option.isSome_iff_exists.1 hc72
         refine za2 (R':=Row ua 1 uc 3 D (augU bs u p)) 1 I (λ B w hA=>by rw [zAP hp1] at hA;exact hA) ?_
         have hbu2:Rd (λ k=>k<w.heap.size∧¬ B k) w (Box bu [C ua (augU bs u p).length uc] 45):=by rw [zzg];exact hbu
         have hal:(augU bs u p).length=u.length:=zzg p
         have hcell:q.getD (W.getD i.toNat default).1.frm.toNat false=true:=by rw [hfr];exact k3.sub _ hs0c
         have hah:(augU bs u p).getD (W.getD i.toNat default).1.brd.toNat default=u.getD (W.getD i.toNat default).1.brd.toNat 0:=zCD hp hcm hci.1.1 hcell hns (hok3 p hp1)
         have hur1:=hur (W.getD i.toNat default).1.brd.toNat
         have hsg:=zBV bs (W.getD i.toNat default).1
         have hF1:zyy W bs u to (m+1) s cell=(some ((W.getD i.toNat default).1 :: p),(zyy W bs u to m q (W.getD i.toNat default).1.to).2):=by rw [zyy,if_neg hne];exact zE9 (i:=i.toNat) (by omega) (by rw [zEm,k2,zzf hgo,show(zyy W bs u to m q (W.getD i.toNat default).1.to).1=some p from hp1];rfl)
         refine zac (gZ 10 (ph_y (zbW tf45 I (λ _ hw=>zaQ (Rd.has hbu2 hw) I)) (ph_y (zab zAd I) (ph_y (zah 2 tf3 I I I) (ph_y (zaE se45 I I (λ _ hw=>(zam Go.Stn.encI_ok (hw.has (p:=1) I)))) (ph_y (zcE tf3 I (λ _ hw=>(zam Go.Stn.encI_ok (hw.has (p:=1) I))) (by omega) (by omega) I) (ph_y (zbW zDl I (λ _ hw=>zaQ (Rd.has hbw hw) I)) (ph_y (zat 2 zyD I I (vs:=[_,_,_,_,_]) I I) (ph_y (zde (fs:=[]) (cap:=[_]) en55 I I (λ w hw=>zFh ca ccap cs ba bcp bs mb (W.getD i.toNat default).1 w (Rd.has hmb hw) (Rd.has hbd hw) hbs (by omega) (by omega))) (ph_y (zaY I I) (ph_y (zaE se45 I I (λ _ hw=>(zam Go.Stn.encI_ok (hw.has (p:=1) I)))) (gK [0,1,4,5,6,9,25,26,27,31,32,81,82] I (zpR (x':=(((augU bs u p).getD ((W.getD i.toNat default).1.brd).toNat default)+(sgnC bs (W.getD i.toNat default).1))) 1 Go.Stn.encI_ok tf3 I I (vs:=[_]) I I I (by omega) (by omega) (gN [0,1,4,5,6,9,25,26,27,31,32] I (gS (gA I (gN [0,1,4,5,6,9,25,26,27,31,32] I (zaw (zao 1 I (zao 1 I (zbT 2 ?_)))))))))))))))))))))
         exact zd9 () 0 (zaC I (zau I)) (by rw [hF1];rfl) (by rw [hF1];rfl) trivial
        ·refine zbP ?_
         have hp1:(zyy W bs u to m q (W.getD i.toNat default).1.to).1=none:=by simpa using hc72
         refine za2 (R':=Row ua 1 uc 3 D u) 1 I (λ B w hA=>by rw [zAO hp1] at hA;exact hA) (zao 3 I (zaq (zaa (gQ (zaY I I) (gM I (gN [0,1,4,5,6,9,25,26,27,31,32] I (zaK 3 I ?_)))))))
         exact za1 (1,_) (sB I) I ⟨by decide,by decide,by first|exact(by rw [zEm,k2];exact zAy hgo)|exact(by rw [zEm,k2,zzf hgo,show(zyy W bs u to m q (W.getD i.toNat default).1.to).1=none from hp1];rfl),by first|exact k3|exact k3.trans hok2⟩ (by simp only [];omega)
      ·refine zae (T':=[(0,_),(1,_),(4,_),(5,_),(6,_),(9,_),(25,_),(26,_),(27,_),(31,_),(32,O 1),(33,_)]) ⟨I,I,I,I,I,I,I,I,I,I,(by show some (Value.int .i64 k)=_;rw [hk]),I,trivial⟩ ?_
       rw [hk] at k2
       obtain⟨hb1,hf1,hto1⟩:=hp.snd i.toNat (by omega)
       have hcm:(W.getD i.toNat default).2∈allC W:=zBe (by omega)
       have hci:=zzl hp _ hcm
       have hb2:(W.getD i.toNat default).2.brd=(i.toNat:Int):=hb1
       refine zaq (zac (zas (gS (gQ (zzF I I (zD0 _ _ _ _ _ _ _ _ _ _)) (zaG I I (zaL zyD (zs:=[_,_,_,_,_]) I) λ b13=>(zaA 0 zyD I I (vs:=[_,_,_,_,_]) I I I I I (gN [0,1,4,5,6,9,13,25,26,27,31,32] I (gS (gQ (zbW tf45 I (λ _ hw=>zaQ (Rd.has hbu hw) I)) (gQ (zab zAd I) (gQ (zah 0 tf3 I I I) (gQ (zaE se45 I I (λ _ hw=>(zam Go.Stn.encI_ok (hw.has (p:=3) I)))) (gQ (zcE tf3 I (λ _ hw=>(zam Go.Stn.encI_ok (hw.has (p:=3) I))) (by omega) (by omega) I) (gA I (gN [0,1,4,5,6,9,13,14,25,26,27,31,32] I (zac (zac (gZ 28 (ph_y (zab zza I) (ph_y (zah 0 tf3 I I I) (ph_y (zaf I) (ph_y (zcr I I) (ph_y (zaf I) (zaz I I (λ jj=>by(try rw [jj]);exact zaf I) (zaz I I (λ jj=>by(try rw [jj]);exact zab zzb I) (zaz I I (λ jj=>by(try rw [jj]);exact zah 0 tf3 I I I) (zaz I I (λ jj=>by(try rw [jj]);exact zbx I) (zaz I I (λ jj=>by(try rw [jj]);exact zyK zAW I I (by omega) (by omega)) ?_))))))))))))))))))))))))))))
       refine zaz I I (λ jj=>by(try rw [jj]);exact zzm (l:=q) (i:=(W.getD i.toNat default).2.to) tf4 I (λ _ hw=>hw.has (p:=2) I) (by omega)) (ph_y (zaR I I I) (ph_y (zaf I) (zaz I I (λ jj=>by(try rw [jj]);exact zaf I) (zaz I I (λ jj=>by(try rw [jj]);exact zbW zDl I (λ _ hw=>zaQ (Rd.has hbw hw) I)) (zaz I I (λ jj=>by(try rw [jj]);exact zat 0 zyD I I (vs:=[_,_,_,_,_]) I I) (zaz I I (λ jj=>by(try rw [jj]);exact zde (v:=O (sgnC bs (W.getD i.toNat default).2)) (fs:=[]) (cap:=[_]) en55 I I (λ w hw=>zFh ca ccap cs ba bcp bs mb (W.getD i.toNat default).2 w (Rd.has hmb hw) (Rd.has hbd hw) hbs (by omega) (by omega))) (zaz I I (λ jj=>by(try rw [jj]);exact zbL I I) (ph_y (zaR I I I) (ph_y (zaf I) (zaz I I (λ jj=>by(try rw [jj]);exact zaf I) (zaz I I (λ jj=>by(try rw [jj]);exact zbL I I) (zaz I I (λ jj=>by(try rw [jj]);exact zaf I) (zdr I I (λ jj=>by(try rw [jj]);exact zab zzk I) (zdr I I (λ jj=>by(try rw [jj]);exact zah 0 tf3 I I I) (zdr I I (λ jj=>by(try rw [jj]);exact zbw I I) (zaz I I (λ jj=>by(try rw [jj]);exact zaX I I I) (ph_y (zaR I I I) ?_)))))))))))))))))
       refine gN [0,1,4,5,6,9,13,25,26,27,31,32,67] I (zap I (λ hc67=>?_) (λ hc67=>?_))
       ·have hgo:=go_f (t:=q) (c:=(W.getD i.toNat default).2) hc67
        refine za8 I (zaa (gQ (zaY I I) (gM I (gN [0,1,4,5,6,9,25,26,27,31,32] I (zaK 0 I ?_)))))
        exact za1 (2,_) (sB I) I ⟨by decide,by decide,by first|exact(by rw [zDh,k2];exact zAy hgo)|exact(by rw [zDh,k2,zzf hgo,show(zyy W bs u to m q (W.getD i.toNat default).2.to).1=none from hp1];rfl),by first|exact k3|exact k3.trans hok2⟩ (by simp only [];omega)
       ·have hgo:=go_t (t:=q) (c:=(W.getD i.toNat default).2) hc67
        obtain⟨hfr,hns,_⟩:(W.getD i.toNat default).2.frm=cell∧q.getD (W.getD i.toNat default).2.to.toNat false=false∧resC bs u (W.getD i.toNat default).2=true:=by have h:=hgo;unfold goC at h;simp only [aT,nT,dT] at h;exact⟨h.1.1,h.1.2,h.2⟩
        obtain⟨hok1,hok2,hok3,hok4⟩:=zBB (bs:=bs) (u:=u) (to:=to) (zzl hp) m q (W.getD i.toNat default).2.to (by omega) hql hci.2.1 hci.2.2 hns
        refine zao 3 I (zao 3 I (zbT 2 (zaq (gS (gQ (zbW zEo I (λ _ hw=>zaQ (Rd.has hbp hw) I)) (gQ (zab zzb I) (gQ (zah 1 tf3 I I I) (gM I (zkZ (fs:=[]) (cap:=[_,_,_,_,_]) 0 en56 I I I I (λ w B hF=>hrec q (W.getD i.toNat default).2.to w B (by omega) hql hns hci.2.1 hci.2.2 (λ k hk=>(hF.own k hk).2) hF.A (hF.rd hbt) (hF.rd hbl) (hF.rd hbu) (hF.rd hbw) (hF.rd hbp) (hF.rd hlb) (hF.rd hWl) (hF.rd hmb) (hF.rd hbd)) λ u72 hq72=>(gN [0,1,4,5,6,9,13,25,26,27,31,32,72] I (zap I (λ hc72=>?_) (λ hc72=>?_))))))))))))
        ·refine zbP ?_
         obtain⟨p,hp1⟩:=Option.isSome_iff_exists.1 hc72
         refine za2 (R':=Row ua 1 uc 3 D (augU bs u p)) 1 I (λ B w hA=>by rw [zAP hp1] at hA;exact hA) ?_
         have hbu2:Rd (λ k=>k<w.heap.size∧¬ B k) w (Box bu [C ua (augU bs u p).length uc] 45):=by rw [zzg];exact hbu
         have hal:(augU bs u p).length=u.length:=zzg p
         have hcell:q.getD (W.getD i.toNat default).2.frm.toNat false=true:=by rw [hfr];exact k3.sub _ hs0c
         have hah:(augU bs u p).getD (W.getD i.toNat default).2.brd.toNat default=u.getD (W.getD i.toNat default).2.brd.toNat 0:=zCD hp hcm hci.1.1 hcell hns (hok3 p hp1)
         have hur1:=hur (W.getD i.toNat default).2.brd.toNat
         have hsg:=zBV bs (W.getD i.toNat default).2
         have hF1:zyy W bs u to (m+1) s cell=(some ((W.getD i.toNat default).2 :: p),(zyy W bs u to m q (W.getD i.toNat default).2.to).2):=by rw [zyy,if_neg hne];exact zFa (i:=i.toNat) (by omega) (by rw [zDh,k2,zzf hgo,show(zyy W bs u to m q (W.getD i.toNat default).2.to).1=some p from hp1];rfl)
         refine zac (gZ 10 (ph_y (zbW tf45 I (λ _ hw=>zaQ (Rd.has hbu2 hw) I)) (ph_y (zab zAd I) (ph_y (zah 2 tf3 I I I) (ph_y (zaE se45 I I (λ _ hw=>(zam Go.Stn.encI_ok (hw.has (p:=1) I)))) (ph_y (zcE tf3 I (λ _ hw=>(zam Go.Stn.encI_ok (hw.has (p:=1) I))) (by omega) (by omega) I) (ph_y (zbW zDl I (λ _ hw=>zaQ (Rd.has hbw hw) I)) (ph_y (zat 2 zyD I I (vs:=[_,_,_,_,_]) I I) (ph_y (zde (fs:=[]) (cap:=[_]) en55 I I (λ w hw=>zFh ca ccap cs ba bcp bs mb (W.getD i.toNat default).2 w (Rd.has hmb hw) (Rd.has hbd hw) hbs (by omega) (by omega))) (ph_y (zaY I I) (ph_y (zaE se45 I I (λ _ hw=>(zam Go.Stn.encI_ok (hw.has (p:=1) I)))) (gK [0,1,4,5,6,9,25,26,27,31,32,81,82] I (zpR (x':=(((augU bs u p).getD ((W.getD i.toNat default).2.brd).toNat default)+(sgnC bs (W.getD i.toNat default).2))) 1 Go.Stn.encI_ok tf3 I I (vs:=[_]) I I I (by omega) (by omega) (gN [0,1,4,5,6,9,25,26,27,31,32] I (gS (gA I (gN [0,1,4,5,6,9,25,26,27,31,32] I (zaw (zao 1 I (zao 1 I (zbT 2 ?_)))))))))))))))))))))
         exact zd9 () 0 (zaC I (zau I)) (by rw [hF1];rfl) (by rw [hF1];rfl) trivial
        ·refine zbP ?_
         have hp1:(zyy W bs u to m q (W.getD i.toNat default).2.to).1=none:=by simpa using hc72
         refine za2 (R':=Row ua 1 uc 3 D u) 1 I (λ B w hA=>by rw [zAO hp1] at hA;exact hA) (zao 3 I (zaq (zaa (gQ (zaY I I) (gM I (gN [0,1,4,5,6,9,25,26,27,31,32] I (zaK 3 I ?_)))))))
         exact za1 (2,_) (sB I) I ⟨by decide,by decide,by first|exact(by rw [zDh,k2];exact zAy hgo)|exact(by rw [zDh,k2,zzf hgo,show(zyy W bs u to m q (W.getD i.toNat default).2.to).1=none from hp1];rfl),by first|exact k3|exact k3.trans hok2⟩ (by simp only [];omega)
     ·have hk2:k=2:=by have:=oD hc33;omega
      rw [hk2] at k2
      refine za8 I (zaa (gQ (zaY I I) (gM I (gN [0,1,4,5,6,9,25,26,27] I (zaK 0 I ?_)))))
      exact za1 (i+1,_) (sB I) I ⟨⟨by omega,by omega⟩,by rw [show(i+1).toNat=i.toNat+1 from by omega,zEn (by omega)];exact k2,k3⟩ (by simp only [];omega)
   ·have hc28:=oD hc28
    refine za8 I (gS (gA I (gN [9] I (zaw (zao 1 I (zao 1 I (zbT 2 ?_)))))))
    have hF1:zyy W bs u to (m+1) s cell=(none,t):=by rw [zyy,if_neg hne,←zGE (i:=i.toNat) (by omega)];exact g2
    exact zd9 () 0 (zaC I (zau I)) (by rw [hF1];rfl) (by rw [hF1];rfl) trivial
theorem zCZ (ca:yO) (ccap:Nat) (cs:List ByteArray) (ba:yO) (bcp:Nat) (bs:List Bdr) (lb:Nat) (wa fa:yO) (wc fc:Nat) (W:List (Crg×Crg)) (F:List (Nat×List (Bool×Bool))) (u:List Int) (ua:yO) (uc:Nat) (to:Int) (sb bt bl bu bw bp mb:Nat) (hW:zaP W.length) (hp:zyI W bs) (hul:u.length=bs.length) (hbs:bs.length≤80) (hur:∀ i,-1≤u.getD i 0∧u.getD i 0≤1):∀ n,zGP n ca ccap cs ba bcp bs lb wa fa wc fc W F u ua uc to sb bt bl bu bw bp mb
 | 0=>λ s cell w B hus hsl hsn h0 h1 _ _ _ _ _ _ _ _ _ _ _=>by have:=zy4 (s:=s) (i:=cell.toNat) (by omega) hsn;omega
 | n+1=>λ s cell w B hus hsl hsn h0 h1 hB hA a1 a2 a3 a4 a5 a6 a7 a8 a9=>
  zD9 ca ccap cs ba bcp bs lb wa fa wc fc W F u ua uc to sb bt bl bu bw bp mb n (zCZ ca ccap cs ba bcp bs lb wa fa wc fc W F u ua uc to sb bt bl bu bw bp mb hW hp hul hbs hur n) s cell w B hB hA hus hsl hsn h0 h1 a1 a2 a3 a4 a5 a6 a7 a8 a9 hW hp hul hbs hur
theorem zHY:SE Tryz.prog 149 144 5:=⟨Tryz.underlying149,by kernel_rfl⟩
theorem af78:AF Tryz.prog 78 159 2 16 [O 0,O 0]:=⟨Tryz.underlying78,by kernel_rfl,rfl⟩
theorem zB4 (x0 x1:Int) (w:World):(Instr.build 159 #[(0,O x0),(1,O x1)]).run Tryz.prog w=.ok (.agg #[O x0,O x1]) w:=by kernel_rfl
theorem zDC (x0_0 x1_0:Int) (w:World):(Instr.buildSlice 45 2 #[(0,O x0_0),(1,O x1_0)]).run Tryz.prog w=.ok (C (some ⟨w.heap.size,0,none⟩) 2 2) (w.alloc (.cells (([x0_0,x1_0]:List (Int)).flatMap D).toArray 3)):=by kernel_rfl
theorem zG7 (x0_0 x0_1:Int) (w:World):(Instr.buildSlice 78 1 #[(0,.agg #[O x0_0,O x0_1])]).run Tryz.prog w=.ok (C (some ⟨w.heap.size,0,none⟩) 1 1) (w.alloc (.cells (([⟨x0_0,x0_1⟩]:List (Int×Int)).flatMap zyQ).toArray 159)):=by kernel_rfl
theorem zHo {l:List Crg} {i:Int} (h0:0≤i) (h1:i<l.length):stpL (l.take (i+1).toNat)=stpL (l.take i.toNat)++[((l.getD i.toNat default).brd,(l.getD i.toNat default).way)]:=by
 rw [show(i+1).toNat=i.toNat+1 from by omega,List.take_add_one,eG (by omega),stpL,List.map_append,gE,eG (by omega)];rfl
theorem zGF (a:yO) (cap:Nat) (l:List Crg) (w:World) (hl:Has w (zaW a 5 zzK l)) (hs:zaP l.length) :
  Calls Tryz.prog 57 #[C a l.length cap] w (zcU (λ z:Option Addr×Nat=>C z.1 (stpL l).length z.2) (λ z=>Row z.1 2 z.2 159 zyQ (stpL l)) w):=by
 unfold zaP at hs
 refine zan (vs:=[_]) Tryz.func57 I I (bL I) (gS (gA I (gN [0,2] I (gS (gA I (gN [0,2,3] I (zac (gS (gM I (gQ (zaV (Tryz.underlying149) I) (gM I (gN [2,3,6,7,8] I (zas (zbB 159 zyQ 2 (zbf (X:=Int×Option Addr×Nat×List (Int×Int)) (λ⟨i,ra,rc,N⟩=>[(2,C none 0 0),(3,C ra N.length rc),(6,C a l.length cap),(7,O (l.length:Int)),(8,O i)]) (λ⟨i,ra,rc,N⟩=>[Row ra 2 rc 159 zyQ N]) (λ⟨i,ra,rc,N⟩=>(0≤i∧i≤l.length∧N=stpL (l.take i.toNat))) (λ⟨i,ra,rc,N⟩=>(l.length - i).toNat) (0,none,0,[]) (sB I) I ?_ ?_)))))))))))))))
 ·exact⟨by omega,by omega,rfl⟩
 ·rintro ⟨i,ra,rc,N⟩ hI
  obtain⟨h0,h1,h2⟩:=hI
  have hnl:(N.length:Int)=i:=by rw [h2,stpL,lM,List.length_take];omega
  refine gS (gQ (zbw I I) (gN [2,3,6,7,8,9] I (zac (zap I (λ hc9=>?_) (λ hc9=>?_)))))
  ·have hc9:=oT hc9
   have hup:=zHo h0 hc9
   refine zaq (zac (zas (gS (gQ (zaE zHY I I (λ _=>rH hl)) (gQ (zbv (vs:=[_,_,_,_,_]) zyD I (λ _=>rH hl) (by omega) (by omega) I) (zaG I I (zaL zyD (zs:=[_,_,_,_,_]) I) λ b5=>(zaA 0 zyD I I (vs:=[_,_,_,_,_]) I I I I I (gN [2,3,5,6,7,8] I (zaa (gM I (gQ (zab zAd I) (gQ (zah 0 tf3 I I I) (gQ (zab zzk I) (gQ (zah 0 tf3 I I I) (gQ (zaI I (zB4 _ _)) (zaG I I (zaD I (zG7 _ _) zyJ I) λ b18=>(zb4 (m:=[(⟨(l.getD i.toNat default).brd,(l.getD i.toNat default).way⟩:Int×Int)]) 2 af78 zyJ I I I I (λ _ hw=>(zam zyJ (hw.has (p:=0) I))) (by first|omega|(simp only [lC,lN];omega)) (by first|(unfold maxLen;omega)|(simp only [lC,lN,maxLen];omega)) λ a19 c19=>(gA I (gN [2,3,6,7,8] I (zaa (gQ (zaY I I) (gM I (gN [2,3,6,7,8] I (zaK 0 I (zaK 0 I ?_)))))))))))))))))))))))))
   exact za1 (i+1,_,_,_) (sB I) I ⟨by omega,by omega,by rw [hup,←h2]⟩ (by simp only [];omega)
  ·have hc9:=oD hc9
   have hall:N=stpL l:=by rw [h2,List.take_of_length_le (by omega)]
   refine za8 I (gS (gM I (gA I (gN [2] I (zaw (zbd (ra,rc) 0 (zaC I (zau I)) ?_ (by rw [hall];rfl)))))))
   rw [hall]
theorem zD8 (a:yO) (cap:Nat) (S:List ShC) (b:yO) (bcap:Nat) (V:List WlC) (ca:yO) (ccap:Nat) (cs:List ByteArray) (ba:yO) (bcp:Nat) (bs:List Bdr) (x:Anm) (frm to:Int) (w:World) (hl:yag w a S) (hs:zaP S.length) (hcS:S.length≤cap) (hlw:yah w b V) (hsw:zaP V.length) (hsh:yab S w) (hss:yac S) (hwo:yaa V w) (hsv:yae V) (hcp:yad V) (hkn:yaf V) (hc:yai w ca cs) (hcs:zaP cs.length) (hcap:cs.length≤ccap) (hbd:yaj w ba bs) (hbs:zaP bs.length) (hat:atE S V cs bs x [frm,to]=0) (hft:frm≠to) :
  Calls Tryz.prog 54 #[zzz3 a S cap b V bcap,zzz4 ca cs ccap ba bs bcp,zzz1 x,O frm,O to] w (zcU (λ z:Nat×(Option Addr×Nat)×(Option Addr×Nat)×List (Nat×List (Bool×Bool))=>.tuple #[Z z.1,O 0]) (λ z=>zEw z ca ccap cs ba bcp bs (zyj S V bs x) (zzS S V bs x)) w):=by
 obtain⟨hok,hin,r2,r3⟩:=zDr hat
 refine zan (vs:=[_,_,_,_,_]) Tryz.func54 I I (bL I) (gS (zaG I I (za3 (vs:=[_,_]) I I) λ b5=>(zaG I I (za3 (vs:=[_,_]) I I) λ b6=>(zaG I I (za3 (vs:=[_,_,_,_,_]) I I) λ b7=>(gA I (gA I (gN [3,4,5,6,7,10,11] I (gS (gQ (zat 2 tf37 I I (vs:=[_,_]) I I) (gQ (zat 1 tf40 I I (vs:=[_,_]) I I) (gQ (zat 0 tf41 I I (vs:=[_,_,_,_,_]) I I) (gM I (gM I (zaG I I (zaD I (zDC _ _) Go.Stn.encI_ok I) λ b20=>(zaG I I (zbm en46 I (λ w hw=>zFH _ _ S _ _ V _ _ cs _ _ bs x _ _ [frm,to] w (rH hl hw) hs hcS (rH hlw hw) hsw (λ z hz=>(rH (hsh z hz) hw)) hss (λ z hz=>(rH (hwo z hz) hw)) hsv hcp hkn (rH hc hw) hcs hcap (rH hbd hw) hbs (zam Go.Stn.encI_ok (hw.has (p:=0) I)) (by simp [zaP]) hok hin)) λ p21=>(gM I (gQ (zaB I I) (gQ (zaB I I) (gA I (gA I (gN [3,4,10,11,12,13] I (zac (zac (gZ 7 (ph_y (zaf I) (ph_y (zbL I I) (ph_y (zaf I) (ziw I I (zaf I) (ziw I I (zaf I) (ziw I I (zbL I I) (ph_y (za5 I I I) (gN [10,11,12,13,30] I (zap I (λ hc30=>?_) (λ hc30=>?_))))))))))))))))))))))))))))))))))
 ·exfalso;simp at hc30;exact hft hc30
 ·simp only [dF] at hc30
  refine zaq (gS (gM I (gM I (gA I (gA I (gN [10,11] I (zaw (zbd p21 0 (zc2 I (zau I) (zau I)) ?_ I))))))))
  rfl
theorem zCy (a:yO) (cap:Nat) (S:List ShC) (b:yO) (bcap:Nat) (V:List WlC) (ca:yO) (ccap:Nat) (cs:List ByteArray) (ba:yO) (bcp:Nat) (bs:List Bdr) (x:Anm) (frm to:Int) (w:World) (hl:yag w a S) (hs:zaP S.length) (hcS:S.length≤cap) (hlw:yah w b V) (hsw:zaP V.length) (hsh:yab S w) (hss:yac S) (hwo:yaa V w) (hsv:yae V) (hcp:yad V) (hkn:yaf V) (hc:yai w ca cs) (hcs:zaP cs.length) (hcap:cs.length≤ccap) (hbd:yaj w ba bs) (hbs:zaP bs.length) (hat:atE S V cs bs x [frm,to]=0) (hft:frm=to) :
  Calls Tryz.prog 54 #[zzz3 a S cap b V bcap,zzz4 ca cs ccap ba bs bcp,zzz1 x,O frm,O to] w (Pure (.tuple #[.pointer none,O 3]) w):=by
 obtain⟨hok,hin,r2,r3⟩:=zDr hat
 refine zan (vs:=[_,_,_,_,_]) Tryz.func54 I I (bL I) (gS (zaG I I (za3 (vs:=[_,_]) I I) λ b5=>(zaG I I (za3 (vs:=[_,_]) I I) λ b6=>(zaG I I (za3 (vs:=[_,_,_,_,_]) I I) λ b7=>(gA I (gA I (gN [3,4,5,6,7,10,11] I (gS (gQ (zat 2 tf37 I I (vs:=[_,_]) I I) (gQ (zat 1 tf40 I I (vs:=[_,_]) I I) (gQ (zat 0 tf41 I I (vs:=[_,_,_,_,_]) I I) (gM I (gM I (zaG I I (zaD I (zDC _ _) Go.Stn.encI_ok I) λ b20=>(zaG I I (zbm en46 I (λ w hw=>zFH _ _ S _ _ V _ _ cs _ _ bs x _ _ [frm,to] w (rH hl hw) hs hcS (rH hlw hw) hsw (λ z hz=>(rH (hsh z hz) hw)) hss (λ z hz=>(rH (hwo z hz) hw)) hsv hcp hkn (rH hc hw) hcs hcap (rH hbd hw) hbs (zam Go.Stn.encI_ok (hw.has (p:=0) I)) (by simp [zaP]) hok hin)) λ p21=>(gM I (gQ (zaB I I) (gQ (zaB I I) (gA I (gA I (gN [3,4,10,11,12,13] I (zac (zac (gZ 7 (ph_y (zaf I) (ph_y (zbL I I) (ph_y (zaf I) (ziw I I (zaf I) (ziw I I (zaf I) (ziw I I (zbL I I) (ph_y (za5 I I I) (gN [10,11,12,13,30] I (zap I (λ hc30=>?_) (λ hc30=>?_))))))))))))))))))))))))))))))))))
 ·simp only [dT] at hc30
  refine gS (gA I (gA I (gN [10,11,12,13] I (zaw (zay (zc2 I (zau I) (zau I)) ?_)))))
  rfl
 ·exfalso;simp at hc30;exact hc30 hft
theorem zCx (a:yO) (cap:Nat) (S:List ShC) (b:yO) (bcap:Nat) (V:List WlC) (ca:yO) (ccap:Nat) (cs:List ByteArray) (ba:yO) (bcp:Nat) (bs:List Bdr) (x:Anm) (frm to:Int) (w:World) (hl:yag w a S) (hs:zaP S.length) (hcS:S.length≤cap) (hlw:yah w b V) (hsw:zaP V.length) (hsh:yab S w) (hss:yac S) (hwo:yaa V w) (hsv:yae V) (hcp:yad V) (hkn:yaf V) (hc:yai w ca cs) (hcs:zaP cs.length) (hcap:cs.length≤ccap) (hbd:yaj w ba bs) (hbs:zaP bs.length) (hne:¬ atE S V cs bs x [frm,to]=0) :
  Calls Tryz.prog 54 #[zzz3 a S cap b V bcap,zzz4 ca cs ccap ba bs bcp,zzz1 x,O frm,O to] w (Pure (.tuple #[.pointer none,O (atE S V cs bs x [frm,to])]) w):=by
 refine zan (vs:=[_,_,_,_,_]) Tryz.func54 I I (bL I) (gS (zaG I I (za3 (vs:=[_,_]) I I) λ b5=>(zaG I I (za3 (vs:=[_,_]) I I) λ b6=>(zaG I I (za3 (vs:=[_,_,_,_,_]) I I) λ b7=>(gA I (gA I (gN [3,4,5,6,7,10,11] I (gS (gQ (zat 2 tf37 I I (vs:=[_,_]) I I) (gQ (zat 1 tf40 I I (vs:=[_,_]) I I) (gQ (zat 0 tf41 I I (vs:=[_,_,_,_,_]) I I) (gM I (gM I (zaG I I (zaD I (zDC _ _) Go.Stn.encI_ok I) λ b20=>(zaG I I (zbm en46 I (λ w hw=>zDs _ _ S _ _ V _ _ cs _ _ bs x _ _ [frm,to] w (rH hl hw) hs hcS (rH hlw hw) hsw (λ z hz=>(rH (hsh z hz) hw)) hss (λ z hz=>(rH (hwo z hz) hw)) hsv hcp hkn (rH hc hw) hcs hcap (rH hbd hw) hbs (zam Go.Stn.encI_ok (hw.has (p:=0) I)) (by simp [zaP]) hne)) λ p21=>(gM I (gQ (zaB I I) (gQ (zaB I I) (gA I (gA I (gN [3,4,10,11,12,13] I (zac (zac (gZ 7 (ph_y (zaf I) (ph_y (zbL I I) (ph_y (zaf I) (zaH I I (λ jj=>by(try rw [jj]);exact zaf I) (zaH I I (λ jj=>by(try rw [jj]);exact zaf I) (zaH I I (λ jj=>by(try rw [jj]);exact zbL I I) (ph_y (zaX I I I) (gN [10,11,12,13,30] I ?_))))))))))))))))))))))))))))))))
 refine zap I (λ hc30=>?_) (λ hc30=>?_)
 ·exfalso;simp only [aT,dT] at hc30;exact hne hc30.1
 ·simp only [Bool.and_eq_false_iff,dF] at hc30
  refine zaq (gS (gM I (gM I (gA I (gA I (gN [10,11] I (zaw (zay (zc2 I (zau I) (zau I)) ?_))))))))
  rfl
theorem zD7 (a:yO) (cap:Nat) (S:List ShC) (b:yO) (bcap:Nat) (V:List WlC) (ca:yO) (ccap:Nat) (cs:List ByteArray) (ba:yO) (bcp:Nat) (bs:List Bdr) (x:Anm) (frm to:Int) (w:World) (hl:yag w a S) (hs:zaP S.length) (hcS:S.length≤cap) (hlw:yah w b V) (hsw:zaP V.length) (hsh:yab S w) (hss:yac S) (hwo:yaa V w) (hsv:yae V) (hcp:yad V) (hkn:yaf V) (hc:yai w ca cs) (hcs:zaP cs.length) (hcap:cs.length≤ccap) (hbd:yaj w ba bs) (hbs:zaP bs.length) (hne:¬ prtE S V cs bs x frm to=0) :
  Calls Tryz.prog 54 #[zzz3 a S cap b V bcap,zzz4 ca cs ccap ba bs bcp,zzz1 x,O frm,O to] w (Pure (.tuple #[.pointer none,O (prtE S V cs bs x frm to)]) w):=by
 by_cases hat:atE S V cs bs x [frm,to]=0
 ·by_cases hft:frm=to
  ·have h:=zCy a cap S b bcap V ca ccap cs ba bcp bs x frm to w hl hs hcS hlw hsw hsh hss hwo hsv hcp hkn hc hcs hcap hbd hbs hat hft
   rwa [show prtE S V cs bs x frm to=3 from by unfold prtE;rw [if_pos hat,if_pos hft]]
  ·exact absurd (by unfold prtE;rw [if_pos hat,if_neg hft]) hne
 ·have h:=zCx a cap S b bcap V ca ccap cs ba bcp bs x frm to w hl hs hcS hlw hsw hsh hss hwo hsv hcp hkn hc hcs hcap hbd hbs hat
  rwa [show prtE S V cs bs x frm to=atE S V cs bs x [frm,to] from if_neg hat]
theorem zHm {S:List ShC} {V:List WlC} {cs:List ByteArray} {bs:List Bdr} {x:Anm} {frm to:Int} (h:prtE S V cs bs x frm to=0):atE S V cs bs x [frm,to]=0∧frm≠to:=by
 unfold prtE at h
 split at h
 ·rename_i hat
  split at h
  ·cases h
  ·exact⟨hat,by assumption⟩
 ·exact absurd h (by assumption)
theorem af60:AF Tryz.prog 60 78 1 24 [C none 0 0]:=⟨Tryz.underlying60,by kernel_rfl,rfl⟩
theorem zGT:AF Tryz.prog 149 144 5 40 [O 0,O 0,O 0,O 0,O 0]:=⟨Tryz.underlying149,by kernel_rfl,rfl⟩
theorem en54:En Tryz.prog 54:=eK Tryz.func54
theorem en57:En Tryz.prog 57:=eK Tryz.func57
theorem zG6 (x0:WkR) (w:World):(Instr.buildSlice 60 1 #[(0,C x0.2.1 x0.1.length x0.2.2)]).run Tryz.prog w=.ok (C (some ⟨w.heap.size,0,none⟩) 1 1) (w.alloc (.cells (([x0]:List (WkR)).flatMap zBI).toArray 78)):=by kernel_rfl
theorem zDz (x0_0 x0_1 x0_2 x0_3 x0_4:Int) (w:World):(Instr.buildSlice 149 1 #[(0,.agg #[O x0_0,O x0_1,O x0_2,O x0_3,O x0_4])]).run Tryz.prog w=.ok (C (some ⟨w.heap.size,0,none⟩) 1 1) (w.alloc (.cells (([⟨x0_0,x0_1,x0_2,x0_3,x0_4⟩]:List (Crg)).flatMap zzK).toArray 144)):=by kernel_rfl
abbrev rowK (z:WkR):Res:=Row z.2.1 2 z.2.2 159 zyQ z.1
theorem zEH (a:yO) (cap:Nat) (S:List ShC) (b:yO) (bcap:Nat) (V:List WlC) (ca:yO) (ccap:Nat) (cs:List ByteArray) (ba:yO) (bcp:Nat) (bs:List Bdr) (x:Anm) (frm to:Int) (w:World) (hl:yag w a S) (hs:zaP S.length) (hcS:S.length≤cap) (hlw:yah w b V) (hsw:zaP V.length) (hsh:yab S w) (hss:yac S) (hwo:yaa V w) (hsv:yae V) (hcp:yad V) (hkn:yaf V) (hc:yai w ca cs) (hcs:zaP cs.length) (hcap:cs.length≤ccap) (hbd:yaj w ba bs) (hbs:zaP bs.length) (hpr:prtE S V cs bs x frm to=0) :
  Calls Tryz.prog 23 #[zzz3 a S cap b V bcap,zzz4 ca cs ccap ba bs bcp,zzz1 x,O frm,O to] w (zcU (λ z:(Option Addr×Nat)×(Option Addr×Nat)×List WkR=>.tuple #[C z.1.1 (clsB (zyj S V bs x) (clsA (zyj S V bs x) bs frm to).1 (clsA (zyj S V bs x) bs frm to).2).length z.1.2,C z.2.1.1 z.2.2.length z.2.1.2,O 0]) (λ z=>zDo (z.2.2.map (·.1)=((wksF (zyj S V bs x) frm to (clsB (zyj S V bs x) (clsA (zyj S V bs x) bs frm to).1 (clsA (zyj S V bs x) bs frm to).2).length (clsA (zyj S V bs x) bs frm to).1).map stpL)) (SepR [Row z.1.1 1 z.1.2 3 D (clsB (zyj S V bs x) (clsA (zyj S V bs x) bs frm to).1 (clsA (zyj S V bs x) bs frm to).2),Row z.2.1.1 1 z.2.1.2 78 zBI z.2.2,Go.K.Rows rowK z.2.2])) w):=by
 obtain⟨hat,hft⟩:=zHm hpr
 obtain⟨hok,hin,hcs40,hbs80⟩:=zDr hat
 obtain⟨f0,f1⟩:=zCw hin frm (by simp)
 obtain⟨t0,t1⟩:=zCw hin to (by simp)
 have f1:frm<40:=by omega
 have t1:to<40:=by omega
 have hp:=zBa hok
 have hlw_:(zyj S V bs x).length=bs.length:=zz5
 have hWs:zaP (zyj S V bs x).length:=by unfold zaP;omega
 refine zan (vs:=[_,_,_,_,_]) Tryz.func23 I I (bL I) (gS (zaG I I (za3 (vs:=[_,_]) I I) λ b5=>(zaG I I (za3 (vs:=[_,_]) I I) λ b6=>(zaG I I (za3 (vs:=[_,_,_,_,_]) I I) λ b7=>(zaG I I (za3 (vs:=[_]) I I) λ b9=>(gA I (gA I (gA I (gN [3,5,6,7,9,10,11,12] I (gS (gQ (zat 3 tf37 I I (vs:=[_,_]) I I) (gQ (zat 2 tf40 I I (vs:=[_,_]) I I) (gQ (zat 1 tf41 I I (vs:=[_,_,_,_,_]) I I) (gM I (gQ (zah 0 tf3 I I I) (zaG I I (zbm en54 I (λ w hw=>zD8 _ _ S _ _ V _ _ cs _ _ bs x frm to w (rH hl hw) hs hcS (rH hlw hw) hsw (λ z hz=>(rH (hsh z hz) hw)) hss (λ z hz=>(rH (hwo z hz) hw)) hsv hcp hkn (rH hc hw) hcs hcap (rH hbd hw) hbs hat hft)) λ p32=>(gM I (gQ (zaB I I) (gQ (zaB I I) (zaG I I (zaL zzI (zs:=[_]) I) λ b13=>(zaA 0 zzI I I (vs:=[_]) I I I I I (gA I (gN [3,6,9,10,11,12,13] I (zao 1 I ?_))))))))))))))))))))))))
 obtain⟨lb,⟨wa,wc⟩,⟨fa,fc⟩,F⟩:=p32
 refine zz4 λ hF=>zbP ?_
 have hF:F.map (·.2)=(zzS S V bs x):=hF
 refine zac (gS (gM I (gQ (zcr I I) (gN [3,6,9,10,11,12,13,36] I (zd8 I (zaq (gS (gQ (zab zz1 I) (gQ (zah 7 tf38 I I I) (gQ (zaV (Tryz.underlying38) I) (zaG I I (zB1 (n:=bs.length) (0:Int) af45 I I Go.Stn.encI_ok I (by omega) (by omega)) λ b41=>(zaG I I (zaL tf45 (zs:=[_]) I) λ b14=>(zaA 0 tf45 I I (vs:=[_]) I I I I I (gN [3,6,9,10,11,12,13,14] I (gS (gQ (zbO («as»:=[]) (bs:=[_]) I I) (zaG I I (zaL zDl (zs:=[_]) I) λ b15=>(zaA 0 zDl I I (vs:=[_]) I I I I I (gN [3,9,10,11,12,13,14,15] I (gS (zaG I I (zaL zEo (zs:=[_]) I) λ b16=>(gN [3,9,10,11,12,13,14,15,16] I (gS (gQ (zbO («as»:=[]) (bs:=[_,_,_,_,_]) I I) (zaA 0 zEo I I (vs:=[_]) I I I I I (gN [3,9,10,11,12,13,14,16] I (zao 3 I (zac (zas ?_)))))))))))))))))))))))))))))
 refine zbf (X:=Int×List Int) (λ⟨k,u⟩=>[(3,O frm),(9,Z b9),(10,C none 0 0),(11,C none 0 0),(12,O 0),(13,Z b13),(14,Z b14),(16,Z b16)]) (λ⟨k,u⟩=>[Row (some ⟨b41,0,none⟩) 1 bs.length 3 D u,Box b16 [.func (.func 56) #[] #[Z b9,Z b13,Z b14,Z b15,Z b16]] 146,Box b15 [.func (.func 55) #[] #[Z b6]] 145,Box b14 [C (some ⟨b41,0,none⟩) u.length bs.length] 45,Box lb [C ca cs.length ccap,C ba bs.length bcp,C wa (zyj S V bs x).length wc,C fa (F.map (·.1)).length fc] 128,Row wa 10 wc 148 zyw (zyj S V bs x),Row fa 1 fc 124 zy6 (F.map (·.1)),Go.K.Rows rowM F,Box b13 [Z lb] 106,Box b9 [O to] 3,Box b7 (zzz2 x) 41,Box b6 (zzz6 ca cs ccap ba bs bcp) 40,Box b5 (zzz5 a S cap b V bcap) 37]) (λ⟨k,u⟩=>(0≤k∧Flw (zyj S V bs x) frm to u k∧clsF (zyj S V bs x) bs frm to (((zyj S V bs x).length:Int)+1 - k).toNat u=(clsA (zyj S V bs x) bs frm to))) (λ⟨k,u⟩=>(((zyj S V bs x).length:Int)+1 - k).toNat) (0,List.replicate bs.length (0:Int)) (sB I) I ?_ ?_
 ·exact⟨by decide,zEL hp,by rw [show(((zyj S V bs x).length:Int)+1 - 0).toNat=(zyj S V bs x).length+1 from by omega];rfl⟩
 ·rintro ⟨k,u⟩ hI
  obtain⟨h0,hfl,h3⟩:=hI
  have hul:u.length=bs.length:=hfl.len.trans hlw_
  have hkl:=zFr hft hfl
  refine zas (gS (zaG I I (zaL zDj (zs:=[_,_,_,_,_,_,_,_,_,_,_,_,_,_,_,_,_,_,_,_,_,_,_,_,_,_,_,_,_,_,_,_,_,_,_,_,_,_,_,_]) I) λ b17=>(gN [3,9,10,11,12,13,14,16,17] I (za2 (R':=Box b17 (bls (List.replicate 40 false)) 110) 0 I (λ B w hA=>hA) (zao 1 I (zao 1 I (zbT 2 (gS (gQ (zah 1 zEo I I I) (gM I (zkZ (fs:=[]) (cap:=[_,_,_,_,_]) 0 en56 I I I I (λ w B hF=>zCZ ca ccap cs ba bcp bs lb wa fa wc fc (zyj S V bs x) F u (some ⟨b41,0,none⟩) bs.length to b17 b9 b13 b14 b15 b16 b6 hWs hp hul hbs80 (zGC hfl.toRng) 40 (List.replicate 40 false) frm w B (Nat.le_of_eq zAn) (List.length_replicate ..) zAE f0 f1 (λ k hk=>(hF.own k hk).2) hF.A (hF.other 8 I) (hF.other 7 I) (hF.other 2 I) (hF.other 1 I) (hF.other 0 I) (hF.other 3 I) (zdX zyl (hF.other 4 I)) (hF.other 10 I) (hF.rd (Has.rd hbd))) λ u46 hq46=>(gQ (zbR I) (gN [3,9,10,11,12,13,14,16,17,47] I (zap I (λ hc47=>?_) (λ hc47=>?_)))))))))))))))
  ·refine za2 (R':=SepR [Box b17 (bls (nxtU (zyj S V bs x) bs frm to u).2) 110,Row (some ⟨b41,0,none⟩) 1 bs.length 3 D (outU bs u (nxtU (zyj S V bs x) bs frm to u))]) 0 I (λ B w hA=>hA) ?_
   have hno:(nxtU (zyj S V bs x) bs frm to u).1.isSome=false:=by have h:(!(nxtU (zyj S V bs x) bs frm to u).1.isSome)=true:=hc47;rwa [nT] at h
   have hcl:(clsA (zyj S V bs x) bs frm to)=(u,(nxtU (zyj S V bs x) bs frm to u).2):=by rw [←h3,show(((zyj S V bs x).length:Int)+1 - k).toNat=(((zyj S V bs x).length:Int) - k).toNat+1 from by omega,zEI hno]
   have hclo:=zGq hp f0 f1 t0 hno
   have hsl:=zGs (u:=u) (to:=to) hp f0 f1
   have hcut:=zFY hp hfl hclo
   have hu1:(clsA (zyj S V bs x) bs frm to).1=u:=by rw [hcl]
   have hu2:(clsA (zyj S V bs x) bs frm to).2=(nxtU (zyj S V bs x) bs frm to u).2:=by rw [hcl]
   refine zbP (za2 (R':=Row (some ⟨b41,0,none⟩) 1 bs.length 3 D u) 1 I (λ B w hA=>by rw [zGv hno] at hA;exact hA) (zac (gS (gQ (zah 4 tf45 I I I) (gQ (zaV (Tryz.underlying45) I) (gM I (gN [3,9,10,11,12,13,14,16,17,48,49,50] I (zas (zbB 3 D 1 ?_)))))))))
   refine zbf (X:=Int×Option Addr×Nat×List Int) (λ⟨i,ra,rc,N⟩=>[(3,O frm),(9,Z b9),(10,C ra N.length rc),(11,C none 0 0),(12,O 0),(13,Z b13),(14,Z b14),(16,Z b16),(17,Z b17),(48,C (some ⟨b41,0,none⟩) u.length bs.length),(49,O (u.length:Int)),(50,O i)]) (λ⟨i,ra,rc,N⟩=>[Row ra 1 rc 3 D N,Box b17 (bls (nxtU (zyj S V bs x) bs frm to u).2) 110,Row (some ⟨b41,0,none⟩) 1 bs.length 3 D u,Box b16 [.func (.func 56) #[] #[Z b9,Z b13,Z b14,Z b15,Z b16]] 146,Box b15 [.func (.func 55) #[] #[Z b6]] 145,Box b14 [C (some ⟨b41,0,none⟩) u.length bs.length] 45,Box lb [C ca cs.length ccap,C ba bs.length bcp,C wa (zyj S V bs x).length wc,C fa (F.map (·.1)).length fc] 128,Row wa 10 wc 148 zyw (zyj S V bs x),Row fa 1 fc 124 zy6 (F.map (·.1)),Go.K.Rows rowM F,Box b13 [Z lb] 106,Box b9 [O to] 3,Box b7 (zzz2 x) 41,Box b6 (zzz6 ca cs ccap ba bs bcp) 40,Box b5 (zzz5 a S cap b V bcap) 37]) (λ⟨i,ra,rc,N⟩=>(0≤i∧i≤u.length∧N=idxN (cutT (zyj S V bs x) u (nxtU (zyj S V bs x) bs frm to u).2) i.toNat)) (λ⟨i,ra,rc,N⟩=>(u.length - i).toNat) (0,none,0,[]) (sB I) I ?_ ?_
   ·exact⟨by omega,by omega,rfl⟩
   ·rintro ⟨i,ra,rc,N⟩ hI
    obtain⟨g0,g1,g2⟩:=hI
    have hnl:N.length≤i.toNat:=by rw [g2];exact zDX
    refine gS (gQ (zbw I I) (gN [3,9,10,11,12,13,14,16,17,48,49,50,51] I (zac (zap I (λ hc51=>?_) (λ hc51=>?_)))))
    ·have hc51:=oT hc51
     have hdm:=zFZ (W:=(zyj S V bs x)) (u:=u) (i:=i.toNat) (by omega)
     have hci:=zzl hp _ hdm
     refine zaq (zac (zas (gS (gM I (gQ (zaE se45 I I (λ _ hw=>(zam Go.Stn.encI_ok (hw.has (p:=2) I)))) (gQ (zcE tf3 I (λ _ hw=>(zam Go.Stn.encI_ok (hw.has (p:=2) I))) (by omega) (by omega) I) (gA I (gA I (gN [3,9,10,11,12,13,14,16,17,18,19,48,49,50] I (gS (gQ (zah 10 zzI I I I) (gQ (zbx I) (gQ (zab zyG I) (gQ (zah 6 zzV I I I) (gM I (gQ (zaE zAg I I (λ _ hw=>(zam zyl (hw.has (p:=7) I)))) (gQ (zzw 0 zz9 I I I (by decide) (λ w hw=>zaO (i:=i) (zam zyl (hw.has (p:=7) I)))) (gQ (zzG (f:=0) (vs:=[_,_,_,_,_]) zyD I (λ _ hw=>(zam zyl (hw.has (p:=7) I))) (by omega) (by omega) I) (zaG I I (zaL zyD (zs:=[_,_,_,_,_]) I) λ b20=>(zaA 0 zyD I I (vs:=[_,_,_,_,_]) I I I I I (gN [3,9,10,11,12,13,14,16,17,18,19,20,48,49,50] I (zac (gS (gM I (gQ (zbL I I) (gN [3,9,10,11,12,13,14,16,17,18,19,20,48,49,50,64] I (zap I (λ hc64=>?_) (λ hc64=>?_))))))))))))))))))))))))))))
     ·have hdir:(dirC (zyj S V bs x) u i.toNat)=((zyj S V bs x).getD i.toNat default).2:=if_pos (oT hc64)
      refine zaa (gQ (zah 11 zzI I I I) (gQ (zbx I) (gQ (zab zyG I) (gQ (zah 7 zzV I I I) (gM I (gQ (zaE zAg I I (λ _ hw=>(zam zyl (hw.has (p:=8) I)))) (gQ (zzw 1 zz9 I I I (by decide) (λ w hw=>zaO (i:=i) (zam zyl (hw.has (p:=8) I)))) (gQ (zzG (f:=5) (vs:=[_,_,_,_,_]) zyD I (λ _ hw=>(zam zyl (hw.has (p:=8) I))) (by omega) (by omega) I) (zaA 0 zyD I I (vs:=[_,_,_,_,_]) I I I I I (gN [3,9,10,11,12,13,14,16,17,18,19,20,48,49,50] I (za2 (R':=Box b20 [O ((dirC (zyj S V bs x) u i.toNat).frm),O ((dirC (zyj S V bs x) u i.toNat).to),O ((dirC (zyj S V bs x) u i.toNat).brd),O ((dirC (zyj S V bs x) u i.toNat).way),O ((dirC (zyj S V bs x) u i.toNat).eff)] 144) 0 I (λ B w hA=>by rw [hdir];exact hA) (zac (gZ 15 (ph_y (zaf I) (ph_y (zcr I I) (ph_y (zaf I) (zaH I I (λ jj=>by(try rw [jj]);exact zab zza I) (zaH I I (λ jj=>by(try rw [jj]);exact zah 0 tf3 I I I) (zaH I I (λ jj=>by(try rw [jj]);exact zyK zAW I I (by omega) (by omega)) ?_)))))))))))))))))))
      refine zaH I I (λ jj=>by(try rw [jj]);exact zzm (l:=(nxtU (zyj S V bs x) bs frm to u).2) (i:=((dirC (zyj S V bs x) u i.toNat).frm)) tf4 I (λ _ hw=>hw.has (p:=2) I) (by first|omega|(rw [hsl];omega))) (ph_y (zaX I I I) (ph_y (zaf I) (zaH I I (λ jj=>by(try rw [jj]);exact zab zzb I) (zaH I I (λ jj=>by(try rw [jj]);exact zah 0 tf3 I I I) (zaH I I (λ jj=>by(try rw [jj]);exact zyK zAW I I (by omega) (by omega)) (zaH I I (λ jj=>by(try rw [jj]);exact zzm (l:=(nxtU (zyj S V bs x) bs frm to u).2) (i:=((dirC (zyj S V bs x) u i.toNat).to)) tf4 I (λ _ hw=>hw.has (p:=2) I) (by first|omega|(rw [hsl];omega))) (zaH I I (λ jj=>by(try rw [jj]);exact zbR I) (ph_y (zaX I I I) (gN [3,9,10,11,12,13,14,16,17,18,48,49,50,87] I (zap I (λ hc87=>?_) (λ hc87=>?_)))))))))))
      ·have hst:=zBy (p:=cutT (zyj S V bs x) u (nxtU (zyj S V bs x) bs frm to u).2) (n:=i.toNat) hc87
       refine zaa (gM I (gM I (zaG I I (zaD I (zA3 _) Go.Stn.encI_ok I) λ b90=>(zb4 (m:=[i]) 2 af45 Go.Stn.encI_ok I I I I (λ _ hw=>(zam Go.Stn.encI_ok (hw.has (p:=0) I))) (by first|omega|(simp only [lC,lN];omega)) (by first|(unfold maxLen;omega)|(simp only [lC,lN,maxLen];omega)) λ a91 c91=>(gA I (gN [3,9,10,11,12,13,14,16,17,48,49,50] I (zaa (gQ (zaY I I) (gM I (gN [3,9,10,11,12,13,14,16,17,48,49,50] I (zaK 0 I (zaK 0 I ?_))))))))))))
       exact za1 (i+1,_,_,_) (sB I) I ⟨by omega,by omega,by rw [show(i+1).toNat=i.toNat+1 from by omega,hst,←g2] <;> first|rfl|rw [tN g0]⟩ (by simp only [];omega)
      ·have hst:=zCt (p:=cutT (zyj S V bs x) u (nxtU (zyj S V bs x) bs frm to u).2) (n:=i.toNat) hc87
       refine zaq (zaa (gQ (zaY I I) (gM I (gN [3,9,10,11,12,13,14,16,17,48,49,50] I (zaK 0 I ?_)))))
       exact za1 (i+1,_,_,_) (sB I) I ⟨by omega,by omega,by rw [show(i+1).toNat=i.toNat+1 from by omega,hst,←g2] <;> first|rfl|rw [tN g0]⟩ (by simp only [];omega)
     ·have hdir:(dirC (zyj S V bs x) u i.toNat)=((zyj S V bs x).getD i.toNat default).1:=if_neg (oD hc64)
      refine za2 (R':=Box b20 [O ((dirC (zyj S V bs x) u i.toNat).frm),O ((dirC (zyj S V bs x) u i.toNat).to),O ((dirC (zyj S V bs x) u i.toNat).brd),O ((dirC (zyj S V bs x) u i.toNat).way),O ((dirC (zyj S V bs x) u i.toNat).eff)] 144) 0 I (λ B w hA=>by rw [hdir];exact hA) (zaq (zac (gZ 15 (ph_y (zaf I) (ph_y (zcr I I) (ph_y (zaf I) (zaH I I (λ jj=>by(try rw [jj]);exact zab zza I) (zaH I I (λ jj=>by(try rw [jj]);exact zah 0 tf3 I I I) (zaH I I (λ jj=>by(try rw [jj]);exact zyK zAW I I (by omega) (by omega)) (zaH I I (λ jj=>by(try rw [jj]);exact zzm (l:=(nxtU (zyj S V bs x) bs frm to u).2) (i:=((dirC (zyj S V bs x) u i.toNat).frm)) tf4 I (λ _ hw=>hw.has (p:=2) I) (by first|omega|(rw [hsl];omega))) (ph_y (zaX I I I) (ph_y (zaf I) (zaH I I (λ jj=>by(try rw [jj]);exact zab zzb I) (zaH I I (λ jj=>by(try rw [jj]);exact zah 0 tf3 I I I) (zaH I I (λ jj=>by(try rw [jj]);exact zyK zAW I I (by omega) (by omega)) (zaH I I (λ jj=>by(try rw [jj]);exact zzm (l:=(nxtU (zyj S V bs x) bs frm to u).2) (i:=((dirC (zyj S V bs x) u i.toNat).to)) tf4 I (λ _ hw=>hw.has (p:=2) I) (by first|omega|(rw [hsl];omega))) ?_))))))))))))))))
      refine zaH I I (λ jj=>by(try rw [jj]);exact zbR I) (ph_y (zaX I I I) (gN [3,9,10,11,12,13,14,16,17,18,48,49,50,87] I (zap I (λ hc87=>?_) (λ hc87=>?_))))
      ·have hst:=zBy (p:=cutT (zyj S V bs x) u (nxtU (zyj S V bs x) bs frm to u).2) (n:=i.toNat) hc87
       refine zaa (gM I (gM I (zaG I I (zaD I (zA3 _) Go.Stn.encI_ok I) λ b90=>(zb4 (m:=[i]) 2 af45 Go.Stn.encI_ok I I I I (λ _ hw=>(zam Go.Stn.encI_ok (hw.has (p:=0) I))) (by first|omega|(simp only [lC,lN];omega)) (by first|(unfold maxLen;omega)|(simp only [lC,lN,maxLen];omega)) λ a91 c91=>(gA I (gN [3,9,10,11,12,13,14,16,17,48,49,50] I (zaa (gQ (zaY I I) (gM I (gN [3,9,10,11,12,13,14,16,17,48,49,50] I (zaK 0 I (zaK 0 I ?_))))))))))))
       exact za1 (i+1,_,_,_) (sB I) I ⟨by omega,by omega,by rw [show(i+1).toNat=i.toNat+1 from by omega,hst,←g2] <;> first|rfl|rw [tN g0]⟩ (by simp only [];omega)
      ·have hst:=zCt (p:=cutT (zyj S V bs x) u (nxtU (zyj S V bs x) bs frm to u).2) (n:=i.toNat) hc87
       refine zaq (zaa (gQ (zaY I I) (gM I (gN [3,9,10,11,12,13,14,16,17,48,49,50] I (zaK 0 I ?_)))))
       exact za1 (i+1,_,_,_) (sB I) I ⟨by omega,by omega,by rw [show(i+1).toNat=i.toNat+1 from by omega,hst,←g2] <;> first|rfl|rw [tN g0]⟩ (by simp only [];omega)
    ·have hc51:=oD hc51
     have hNB:N=(clsB (zyj S V bs x) (clsA (zyj S V bs x) bs frm to).1 (clsA (zyj S V bs x) bs frm to).2):=by rw [g2,hcl];unfold clsB;rw [show i.toNat=(zyj S V bs x).length from by omega]
     refine za2 (R':=Row ra 1 rc 3 D (clsB (zyj S V bs x) (clsA (zyj S V bs x) bs frm to).1 (clsA (zyj S V bs x) bs frm to).2)) 0 I (λ B w hA=>by rw [hNB] at hA;exact hA) (zae (T':=[(3,_),(9,_),(10,C ra (clsB (zyj S V bs x) (clsA (zyj S V bs x) bs frm to).1 (clsA (zyj S V bs x) bs frm to).2).length rc),(11,_),(12,_),(13,_),(14,_),(16,_),(17,_),(48,_),(49,_),(50,_),(51,_)]) ⟨I,I,(by show some (Value.slice ra N.length rc)=_;rw [hNB]),I,I,I,I,I,I,I,I,I,I,trivial⟩ (za8 I (za8 I (zac (gS (gM I (gQ (zaV (Tryz.underlying45) I) (gM I (gN [3,9,10,11,12,13,14,94,95] I (zas (zjj rowK (zbB 78 zBI 1 ?_))))))))))))
     refine zbf (X:=Int×List Int×Option Addr×Nat×List WkR) (λ⟨j,v,ka,kc,L⟩=>[(3,O frm),(9,Z b9),(10,C ra (clsB (zyj S V bs x) (clsA (zyj S V bs x) bs frm to).1 (clsA (zyj S V bs x) bs frm to).2).length rc),(11,C ka L.length kc),(12,O 0),(13,Z b13),(14,Z b14),(94,O ((clsB (zyj S V bs x) (clsA (zyj S V bs x) bs frm to).1 (clsA (zyj S V bs x) bs frm to).2).length:Int)),(95,O j)]) (λ⟨j,v,ka,kc,L⟩=>[Row ka 1 kc 78 zBI L,Go.K.Rows rowK L,Row ra 1 rc 3 D (clsB (zyj S V bs x) (clsA (zyj S V bs x) bs frm to).1 (clsA (zyj S V bs x) bs frm to).2),Box b17 (bls (nxtU (zyj S V bs x) bs frm to u).2) 110,Row (some ⟨b41,0,none⟩) 1 bs.length 3 D v,Box b16 [.func (.func 56) #[] #[Z b9,Z b13,Z b14,Z b15,Z b16]] 146,Box b15 [.func (.func 55) #[] #[Z b6]] 145,Box b14 [C (some ⟨b41,0,none⟩) v.length bs.length] 45,Box lb [C ca cs.length ccap,C ba bs.length bcp,C wa (zyj S V bs x).length wc,C fa (F.map (·.1)).length fc] 128,Row wa 10 wc 148 zyw (zyj S V bs x),Row fa 1 fc 124 zy6 (F.map (·.1)),Go.K.Rows rowM F,Box b13 [Z lb] 106,Box b9 [O to] 3,Box b7 (zzz2 x) 41,Box b6 (zzz6 ca cs ccap ba bs bcp) 40,Box b5 (zzz5 a S cap b V bcap) 37]) (λ⟨j,v,ka,kc,L⟩=>((0≤j∧j≤(clsB (zyj S V bs x) (clsA (zyj S V bs x) bs frm to).1 (clsA (zyj S V bs x) bs frm to).2).length)∧(L.length:Int)=j∧Flw (zyj S V bs x) frm to v (((clsB (zyj S V bs x) (clsA (zyj S V bs x) bs frm to).1 (clsA (zyj S V bs x) bs frm to).2).length:Int) - j)∧L.map (·.1)++(wksF (zyj S V bs x) frm to (((clsB (zyj S V bs x) (clsA (zyj S V bs x) bs frm to).1 (clsA (zyj S V bs x) bs frm to).2).length:Int) - j).toNat v).map stpL=((wksF (zyj S V bs x) frm to (clsB (zyj S V bs x) (clsA (zyj S V bs x) bs frm to).1 (clsA (zyj S V bs x) bs frm to).2).length (clsA (zyj S V bs x) bs frm to).1).map stpL))) (λ⟨j,v,ka,kc,L⟩=>(((clsB (zyj S V bs x) (clsA (zyj S V bs x) bs frm to).1 (clsA (zyj S V bs x) bs frm to).2).length:Int) - j).toNat) (0,u,none,0,[]) (sB I) I ?_ ?_
     ·exact⟨⟨by omega,by omega⟩,rfl,by rw [hu1,hu2,Int.sub_zero,hcut];exact hfl,by rw [Int.sub_zero,Int.toNat_natCast,hu1];rfl⟩
     ·rintro ⟨j,v,ka,kc,L⟩ hI
      obtain⟨⟨j0,j1⟩,j2,hfv,j4⟩:=hI
      have hvl:v.length=bs.length:=hfv.len.trans hlw_
      have hcb:(clsB (zyj S V bs x) (clsA (zyj S V bs x) bs frm to).1 (clsA (zyj S V bs x) bs frm to).2).length≤(zyj S V bs x).length:=zDX
      refine gS (gQ (zbw I I) (gN [3,9,10,11,12,13,14,94,95,96] I (zac (zap I (λ hc96=>?_) (λ hc96=>?_)))))
      ·have hc96:=oT hc96
       have hm0:=zD1 (k:=(((clsB (zyj S V bs x) (clsA (zyj S V bs x) bs frm to).1 (clsA (zyj S V bs x) bs frm to).2).length:Int) - j - 1)) (by rw [show(((clsB (zyj S V bs x) (clsA (zyj S V bs x) bs frm to).1 (clsA (zyj S V bs x) bs frm to).2).length:Int) - j - 1)+1=((clsB (zyj S V bs x) (clsA (zyj S V bs x) bs frm to).1 (clsA (zyj S V bs x) bs frm to).2).length:Int) - j from by omega];exact hfv)
       refine zaq (zac (zas (zEQ (gS (gA I (gN [3,9,10,11,12,13,14,21,94,95] I (zac (zEP (zac (gS (gM I (gA I (gN [3,9,10,11,12,13,14,21,22,94,95] I (zas (zbB 144 zzK 5 ?_)))))))))))))))
       refine zbf (X:=Int×List Int×Option Addr×Nat×List Crg) (λ⟨cell,v2,la,lc,l⟩=>[(3,O frm),(9,Z b9),(10,C ra (clsB (zyj S V bs x) (clsA (zyj S V bs x) bs frm to).1 (clsA (zyj S V bs x) bs frm to).2).length rc),(11,C ka L.length kc),(12,O 0),(13,Z b13),(14,Z b14),(21,C la l.length lc),(22,O cell),(94,O ((clsB (zyj S V bs x) (clsA (zyj S V bs x) bs frm to).1 (clsA (zyj S V bs x) bs frm to).2).length:Int)),(95,O j)]) (λ⟨cell,v2,la,lc,l⟩=>[Row la 5 lc 144 zzK l,Row ka 1 kc 78 zBI L,Go.K.Rows rowK L,Row ra 1 rc 3 D (clsB (zyj S V bs x) (clsA (zyj S V bs x) bs frm to).1 (clsA (zyj S V bs x) bs frm to).2),Box b17 (bls (nxtU (zyj S V bs x) bs frm to u).2) 110,Row (some ⟨b41,0,none⟩) 1 bs.length 3 D v2,Box b16 [.func (.func 56) #[] #[Z b9,Z b13,Z b14,Z b15,Z b16]] 146,Box b15 [.func (.func 55) #[] #[Z b6]] 145,Box b14 [C (some ⟨b41,0,none⟩) v2.length bs.length] 45,Box lb [C ca cs.length ccap,C ba bs.length bcp,C wa (zyj S V bs x).length wc,C fa (F.map (·.1)).length fc] 128,Row wa 10 wc 148 zyw (zyj S V bs x),Row fa 1 fc 124 zy6 (F.map (·.1)),Go.K.Rows rowM F,Box b13 [Z lb] 106,Box b9 [O to] 3,Box b7 (zzz2 x) 41,Box b6 (zzz6 ca cs ccap ba bs bcp) 40,Box b5 (zzz5 a S cap b V bcap) 37]) (λ⟨cell,v2,la,lc,l⟩=>(Mid (zyj S V bs x) frm to v2 cell (((clsB (zyj S V bs x) (clsA (zyj S V bs x) bs frm to).1 (clsA (zyj S V bs x) bs frm to).2).length:Int) - j - 1)∧wlkA (zyj S V bs x) to v frm=(l++(wlkA (zyj S V bs x) to v2 cell).1,(wlkA (zyj S V bs x) to v2 cell).2)∧l.length+nzU v2=nzU v)) (λ⟨cell,v2,la,lc,l⟩=>nzU v2) (frm,v,none,0,[]) (sB I) I ?_ ?_
       ·exact⟨hm0,by simp,by simp⟩
       ·rintro ⟨cell,v2,la,lc,l⟩ hI
        obtain⟨hmid,hwk,hln⟩:=hI
        have hv2:v2.length=bs.length:=hmid.len.trans hlw_
        have hnzv:=zHN (u:=v)
        refine zac (gS (gM I (gQ (zah 14 tf3 I I I) (gQ (zcr I I) (gN [3,9,10,11,12,13,14,21,22,94,95,100] I (zap I (λ hc100=>?_) (λ hc100=>?_)))))))
        ·have hcne:cell≠to:=by simpa using hc100
         obtain⟨iz,hz1,hz2⟩:=zGo hp (by omega) hmid hcne
         refine zaq (zas (zac (gS (gQ (zah 8 tf45 I I I) (gQ (zaV (Tryz.underlying45) I) (gM I (gN [3,9,10,11,12,13,14,21,22,94,95,101,102,103] I (zas ?_))))))))
         refine zbf (X:=Int) (λ(i:Int)=>[(3,O frm),(9,Z b9),(10,C ra (clsB (zyj S V bs x) (clsA (zyj S V bs x) bs frm to).1 (clsA (zyj S V bs x) bs frm to).2).length rc),(11,C ka L.length kc),(12,O 0),(13,Z b13),(14,Z b14),(21,C la l.length lc),(22,O cell),(94,O ((clsB (zyj S V bs x) (clsA (zyj S V bs x) bs frm to).1 (clsA (zyj S V bs x) bs frm to).2).length:Int)),(95,O j),(101,C (some ⟨b41,0,none⟩) v2.length bs.length),(102,O (v2.length:Int)),(103,O i)]) (λ(i:Int)=>[Row la 5 lc 144 zzK l,Row ka 1 kc 78 zBI L,Go.K.Rows rowK L,Row ra 1 rc 3 D (clsB (zyj S V bs x) (clsA (zyj S V bs x) bs frm to).1 (clsA (zyj S V bs x) bs frm to).2),Box b17 (bls (nxtU (zyj S V bs x) bs frm to u).2) 110,Row (some ⟨b41,0,none⟩) 1 bs.length 3 D v2,Box b16 [.func (.func 56) #[] #[Z b9,Z b13,Z b14,Z b15,Z b16]] 146,Box b15 [.func (.func 55) #[] #[Z b6]] 145,Box b14 [C (some ⟨b41,0,none⟩) v2.length bs.length] 45,Box lb [C ca cs.length ccap,C ba bs.length bcp,C wa (zyj S V bs x).length wc,C fa (F.map (·.1)).length fc] 128,Row wa 10 wc 148 zyw (zyj S V bs x),Row fa 1 fc 124 zy6 (F.map (·.1)),Go.K.Rows rowM F,Box b13 [Z lb] 106,Box b9 [O to] 3,Box b7 (zzz2 x) 41,Box b6 (zzz6 ca cs ccap ba bs bcp) 40,Box b5 (zzz5 a S cap b V bcap) 37]) (λ(i:Int)=>(0≤i∧i≤v2.length∧∀ m:Nat,(m:Int)<i→wlkT (zyj S V bs x) v2 cell m=false)) (λ(i:Int)=>(v2.length - i).toNat) 0 (sB I) I ?_ ?_
         ·exact⟨by omega,by omega,λ m hm=>by omega⟩
         ·rintro i hI
          obtain⟨i0,i1,hb⟩:=hI
          refine gS (gQ (zbw I I) (gN [3,9,10,11,12,13,14,21,22,94,95,101,102,103,104] I (zac (zap I (λ hc104=>?_) (λ hc104=>?_)))))
          ·have hc104:=oT hc104
           have hrg:=hmid.rng i.toNat (by omega)
           rcases hrg with hu0|hu0|hu0
           ·have hu:v2.getD i.toNat 0=0:=hu0
            refine zaq (zac (zas (gS (gM I (gQ (zaE se45 I I (λ _ hw=>(zam Go.Stn.encI_ok (hw.has (p:=5) I)))) (gQ (zyY (v:=O 0) (zcE tf3 I (λ _ hw=>(zam Go.Stn.encI_ok (hw.has (p:=5) I))) (by omega) (by omega) I) (by show Value.int .i64 (v2.getD i.toNat 0)=_;rw [hu])) (gA I (gA I (gN [3,9,10,11,12,13,14,21,22,23,24,94,95,101,102,103] I (gS (gM I (gQ (zyY (v:=O 1) (zfV I I) I) (gQ (zyY (v:=O 0) (zoI I I (by omega)) I) (gA I (gN [3,9,10,11,12,13,14,21,22,23,24,25,94,95,101,102,103] I (zac (gZ 16 (ph_y (zaf I) (ph_y (zcr I I) (ph_y (zaf I) (zaH I I (λ jj=>by(try rw [jj]);exact zah 13 zzI I I I) (zaH I I (λ jj=>by(try rw [jj]);exact zbx I) (zaH I I (λ jj=>by(try rw [jj]);exact zab zyG I) (zaH I I (λ jj=>by(try rw [jj]);exact zah 9 zzV I I I) (zaH I I (λ jj=>by(try rw [jj]);exact zaf I) (zaH I I (λ jj=>by(try rw [jj]);exact zaf I) (zaH I I (λ jj=>by(try rw [jj]);exact zaE zAg I I (λ _ hw=>(zam zyl (hw.has (p:=10) I)))) ?_)))))))))))))))))))))))))))
            refine zaH I I (λ jj=>by(try rw [jj]);exact zzw 0 zz9 I I I (by decide) (λ w hw=>zaO (i:=i) (zam zyl (hw.has (p:=10) I)))) (zaH I I (λ jj=>by(try rw [jj]);exact zbh zza I (λ w hw=>zaO (i:=i) (zam zyl (hw.has (p:=10) I)))) (zaH I I (λ jj=>by(try rw [jj]);exact zbn tf3 I (λ _ hw=>(zam zyl (hw.has (p:=10) I))) (by omega) (by omega) I) (zaH I I (λ jj=>by(try rw [jj]);exact zaf I) (zaH I I (λ jj=>by(try rw [jj]);exact zbL I I) (ph_y (zaX I I I) (gN [3,9,10,11,12,13,14,21,22,23,25,94,95,101,102,103,126] I (zap I (λ hc126=>?_) (λ hc126=>?_))))))))
            ·exfalso;simp at hc126
            ·have hwf:wlkT (zyj S V bs x) v2 cell i.toNat=false:=by unfold wlkT;rw [show uI v2 i.toNat=0 from hu];rfl
             refine zaq (zaa (gQ (zaY I I) (gM I (gN [3,9,10,11,12,13,14,21,22,94,95,101,102,103] I ?_))))
             exact za1 (i+1) (sB I) I ⟨by omega,by omega,λ m hm=>if h:(m:Int)<i then hb m h else(by rw [show m=i.toNat from by omega];exact hwf)⟩ (by omega)
           ·have hu:v2.getD i.toNat 0=1:=hu0.1
            have hdir:(dirC (zyj S V bs x) v2 i.toNat)=((zyj S V bs x).getD i.toNat default).1:=by unfold dirC;rw [show uI v2 i.toNat=1 from hu];rfl
            refine zaq (zac (zas (gS (gM I (gQ (zaE se45 I I (λ _ hw=>(zam Go.Stn.encI_ok (hw.has (p:=5) I)))) (gQ (zyY (v:=O 1) (zcE tf3 I (λ _ hw=>(zam Go.Stn.encI_ok (hw.has (p:=5) I))) (by omega) (by omega) I) (by show Value.int .i64 (v2.getD i.toNat 0)=_;rw [hu])) (gA I (gA I (gN [3,9,10,11,12,13,14,21,22,23,24,94,95,101,102,103] I (gS (gM I (gQ (zyY (v:=O 0) (zfV I I) I) (gQ (zyY (v:=O 0) (zoI I I (by omega)) I) (gA I (gN [3,9,10,11,12,13,14,21,22,23,24,25,94,95,101,102,103] I (zac (gZ 16 (ph_y (zaf I) (ph_y (zcr I I) (ph_y (zaf I) (ziw I I (zah 13 zzI I I I) (ziw I I (zbx I) (ziw I I (zab zyG I) (ziw I I (zah 9 zzV I I I) (ziw I I (zaf I) (ziw I I (zaf I) (ziw I I (zaE zAg I I (λ _ hw=>(zam zyl (hw.has (p:=10) I)))) (ziw I I (zzw 0 zz9 I I I (by decide) (λ w hw=>zaO (i:=i) (zam zyl (hw.has (p:=10) I)))) (ziw I I (zbh zza I (λ w hw=>zaO (i:=i) (zam zyl (hw.has (p:=10) I)))) ?_)))))))))))))))))))))))))))))
            refine ziw I I (zbn tf3 I (λ _ hw=>(zam zyl (hw.has (p:=10) I))) (by omega) (by omega) I) (ziw I I (zaf I) (ziw I I (zbL I I) (ph_y (za5 I I I) (gN [3,9,10,11,12,13,14,21,22,23,25,94,95,101,102,103,126] I (zap I (λ hc126=>?_) (λ hc126=>?_))))))
            ·have hcf:((zyj S V bs x).getD i.toNat default).1.frm=cell:=by simpa using hc126
             have hwt:wlkT (zyj S V bs x) v2 cell i.toNat=true:=by unfold wlkT;rw [hdir,show uI v2 i.toNat=1 from hu,hcf];simp
             have hmn:=zCY hp hmid (by omega) hwt
             have hws:=zC4 (to:=to) hmid.len hcne (by omega) hwt (λ m hm=>hb m (by omega))
             have hnz:=zD6 (u:=v2) (i:=i.toNat) (by omega) (by rw [show uI v2 i.toNat=1 from hu];decide)
             refine gS (gM I (gQ (zah 13 zzI I I I) (gQ (zbx I) (gQ (zab zyG I) (gQ (zah 9 zzV I I I) (gM I (gM I (gQ (zaE zAg I I (λ _ hw=>(zam zyl (hw.has (p:=10) I)))) (gQ (zzw 0 zz9 I I I (by decide) (λ w hw=>zaO (i:=i) (zam zyl (hw.has (p:=10) I)))) (gQ (zzG (f:=0) (vs:=[_,_,_,_,_]) zyD I (λ _ hw=>(zam zyl (hw.has (p:=10) I))) (by omega) (by omega) I) (zaG I I (zaD I (zDz _ _ _ _ _) zy5 I) λ b137=>(zb4 (m:=[((zyj S V bs x).getD i.toNat default).1]) 1 zGT zy5 I I I I (λ _ hw=>(zam zy5 (hw.has (p:=0) I))) (by first|omega|(simp only [lC,lN];omega)) (by first|(unfold maxLen;omega)|(simp only [lC,lN,maxLen];omega)) λ a138 c138=>(gA I (gN [3,9,10,11,12,13,14,21,22,23,25,94,95,101,102,103] I (zac (gZ 13 (ph_y (zah 9 tf45 I I I) (ph_y (zaf I) (ph_y (zah 14 zzI I I I) (ph_y (zbx I) (ph_y (zab zyG I) (ph_y (zah 10 zzV I I I) (ph_y (zaf I) (ph_y (zaf I) ?_))))))))))))))))))))))))
             refine ph_y (zaE zAg I I (λ _ hw=>(zam zyl (hw.has (p:=11) I)))) (ph_y (zzw 0 zz9 I I I (by decide) (λ w hw=>zaO (i:=i) (zam zyl (hw.has (p:=11) I)))) (ph_y (zbh zzb I (λ w hw=>zaO (i:=i) (zam zyl (hw.has (p:=11) I)))) (ph_y (zbn tf3 I (λ _ hw=>(zam zyl (hw.has (p:=11) I))) (by omega) (by omega) I) (ph_y (zaE se45 I I (λ _ hw=>(zam Go.Stn.encI_ok (hw.has (p:=6) I)))) (gK [3,9,10,11,12,13,14,21,22,94,95,101,102,103,150,151] I (zpR (x':=0) 6 Go.Stn.encI_ok tf3 I I (vs:=[_]) I I I (by omega) (by omega) (gA I (gN [3,9,10,11,12,13,14,21,22,94,95,101,102,103] I (za2 (R':=Box b14 [C (some ⟨b41,0,none⟩) (v2.set i.toNat 0).length bs.length] 45) 9 I (λ B w hA=>by rw [List.length_set];exact hA) (za8 I (zaK 0 I ?_)))))))))))
             exact za1 (((zyj S V bs x).getD i.toNat default).1.to,v2.set i.toNat 0,_,_,_) (sB I) I ⟨by rw [hdir] at hmn;exact hmn,by rw [hwk,hws,hdir];simp,by rw [lA];simp only [lC,lN];omega⟩ (by simp only [];omega)
            ·have hwf:wlkT (zyj S V bs x) v2 cell i.toNat=false:=by unfold wlkT;rw [hdir,decide_eq_false (show ¬ ((zyj S V bs x).getD i.toNat default).1.frm=cell by simpa using hc126),Bool.and_false]
             refine zaq (zaa (gQ (zaY I I) (gM I (gN [3,9,10,11,12,13,14,21,22,94,95,101,102,103] I ?_))))
             exact za1 (i+1) (sB I) I ⟨by omega,by omega,λ m hm=>if h:(m:Int)<i then hb m h else(by rw [show m=i.toNat from by omega];exact hwf)⟩ (by omega)
           ·have hu:v2.getD i.toNat 0=(-1):=hu0.1
            have hdir:(dirC (zyj S V bs x) v2 i.toNat)=((zyj S V bs x).getD i.toNat default).2:=by unfold dirC;rw [show uI v2 i.toNat=(-1) from hu];rfl
            refine zaq (zac (zas (gS (gM I (gQ (zaE se45 I I (λ _ hw=>(zam Go.Stn.encI_ok (hw.has (p:=5) I)))) (gQ (zyY (v:=O (-1)) (zcE tf3 I (λ _ hw=>(zam Go.Stn.encI_ok (hw.has (p:=5) I))) (by omega) (by omega) I) (by show Value.int .i64 (v2.getD i.toNat 0)=_;rw [hu])) (gA I (gA I (gN [3,9,10,11,12,13,14,21,22,23,24,94,95,101,102,103] I (gS (gM I (gQ (zyY (v:=O 2) (zfV I I) I) (gQ (zyY (v:=O 1) (zoI I I (by omega)) I) (gA I (gN [3,9,10,11,12,13,14,21,22,23,24,25,94,95,101,102,103] I (zac (gZ 16 (ph_y (zaf I) (ph_y (zcr I I) (ph_y (zaf I) (ziw I I (zah 13 zzI I I I) (ziw I I (zbx I) (ziw I I (zab zyG I) (ziw I I (zah 9 zzV I I I) (ziw I I (zaf I) (ziw I I (zaf I) (ziw I I (zaE zAg I I (λ _ hw=>(zam zyl (hw.has (p:=10) I)))) (ziw I I (zzw 1 zz9 I I I (by decide) (λ w hw=>zaO (i:=i) (zam zyl (hw.has (p:=10) I)))) (ziw I I (zbh zza I (λ w hw=>zaO (i:=i) (zam zyl (hw.has (p:=10) I)))) ?_)))))))))))))))))))))))))))))
            refine ziw I I (zbn tf3 I (λ _ hw=>(zam zyl (hw.has (p:=10) I))) (by omega) (by omega) I) (ziw I I (zaf I) (ziw I I (zbL I I) (ph_y (za5 I I I) (gN [3,9,10,11,12,13,14,21,22,23,25,94,95,101,102,103,126] I (zap I (λ hc126=>?_) (λ hc126=>?_))))))
            ·have hcf:((zyj S V bs x).getD i.toNat default).2.frm=cell:=by simpa using hc126
             have hwt:wlkT (zyj S V bs x) v2 cell i.toNat=true:=by unfold wlkT;rw [hdir,show uI v2 i.toNat=(-1) from hu,hcf];simp
             have hmn:=zCY hp hmid (by omega) hwt
             have hws:=zC4 (to:=to) hmid.len hcne (by omega) hwt (λ m hm=>hb m (by omega))
             have hnz:=zD6 (u:=v2) (i:=i.toNat) (by omega) (by rw [show uI v2 i.toNat=(-1) from hu];decide)
             refine gS (gM I (gQ (zah 13 zzI I I I) (gQ (zbx I) (gQ (zab zyG I) (gQ (zah 9 zzV I I I) (gM I (gM I (gQ (zaE zAg I I (λ _ hw=>(zam zyl (hw.has (p:=10) I)))) (gQ (zzw 1 zz9 I I I (by decide) (λ w hw=>zaO (i:=i) (zam zyl (hw.has (p:=10) I)))) (gQ (zzG (f:=5) (vs:=[_,_,_,_,_]) zyD I (λ _ hw=>(zam zyl (hw.has (p:=10) I))) (by omega) (by omega) I) (zaG I I (zaD I (zDz _ _ _ _ _) zy5 I) λ b137=>(zb4 (m:=[((zyj S V bs x).getD i.toNat default).2]) 1 zGT zy5 I I I I (λ _ hw=>(zam zy5 (hw.has (p:=0) I))) (by first|omega|(simp only [lC,lN];omega)) (by first|(unfold maxLen;omega)|(simp only [lC,lN,maxLen];omega)) λ a138 c138=>(gA I (gN [3,9,10,11,12,13,14,21,22,23,25,94,95,101,102,103] I (zac (gZ 13 (ph_y (zah 9 tf45 I I I) (ph_y (zaf I) (ph_y (zah 14 zzI I I I) (ph_y (zbx I) (ph_y (zab zyG I) (ph_y (zah 10 zzV I I I) (ph_y (zaf I) (ph_y (zaf I) ?_))))))))))))))))))))))))
             refine ph_y (zaE zAg I I (λ _ hw=>(zam zyl (hw.has (p:=11) I)))) (ph_y (zzw 1 zz9 I I I (by decide) (λ w hw=>zaO (i:=i) (zam zyl (hw.has (p:=11) I)))) (ph_y (zbh zzb I (λ w hw=>zaO (i:=i) (zam zyl (hw.has (p:=11) I)))) (ph_y (zbn (f:=6) tf3 I (λ _ hw=>(zam zyl (hw.has (p:=11) I))) (by omega) (by omega) I) (ph_y (zaE se45 I I (λ _ hw=>(zam Go.Stn.encI_ok (hw.has (p:=6) I)))) (gK [3,9,10,11,12,13,14,21,22,94,95,101,102,103,150,151] I (zpR (x':=0) 6 Go.Stn.encI_ok tf3 I I (vs:=[_]) I I I (by omega) (by omega) (gA I (gN [3,9,10,11,12,13,14,21,22,94,95,101,102,103] I (za2 (R':=Box b14 [C (some ⟨b41,0,none⟩) (v2.set i.toNat 0).length bs.length] 45) 9 I (λ B w hA=>by rw [List.length_set];exact hA) (za8 I (zaK 0 I ?_)))))))))))
             exact za1 (((zyj S V bs x).getD i.toNat default).2.to,v2.set i.toNat 0,_,_,_) (sB I) I ⟨by rw [hdir] at hmn;exact hmn,by rw [hwk,hws,hdir];simp,by rw [lA];simp only [lC,lN];omega⟩ (by simp only [];omega)
            ·have hwf:wlkT (zyj S V bs x) v2 cell i.toNat=false:=by unfold wlkT;rw [hdir,decide_eq_false (show ¬ ((zyj S V bs x).getD i.toNat default).2.frm=cell by simpa using hc126),Bool.and_false]
             refine zaq (zaa (gQ (zaY I I) (gM I (gN [3,9,10,11,12,13,14,21,22,94,95,101,102,103] I ?_))))
             exact za1 (i+1) (sB I) I ⟨by omega,by omega,λ m hm=>if h:(m:Int)<i then hb m h else(by rw [show m=i.toNat from by omega];exact hwf)⟩ (by omega)
          ·exfalso;have hc104:=oD hc104;have:=hb iz (by omega);rw [hz2] at this;cases this
        ·have hce:cell=to:=by simpa using hc100
         have hw2:wlkA (zyj S V bs x) to v frm=(l,v2):=by rw [hwk,hce,zGM,List.append_nil]
         have hfv2:Flw (zyj S V bs x) frm to v2 (((clsB (zyj S V bs x) (clsA (zyj S V bs x) bs frm to).1 (clsA (zyj S V bs x) bs frm to).2).length:Int) - (j+1)):=by have h:=hmid;rw [hce] at h;have h2:=zGn h;rwa [show(((clsB (zyj S V bs x) (clsA (zyj S V bs x) bs frm to).1 (clsA (zyj S V bs x) bs frm to).2).length:Int) - j - 1)=((clsB (zyj S V bs x) (clsA (zyj S V bs x) bs frm to).1 (clsA (zyj S V bs x) bs frm to).2).length:Int) - (j+1) from by omega] at h2
         have hwks:wksF (zyj S V bs x) frm to (((clsB (zyj S V bs x) (clsA (zyj S V bs x) bs frm to).1 (clsA (zyj S V bs x) bs frm to).2).length:Int) - j).toNat v=l :: wksF (zyj S V bs x) frm to (((clsB (zyj S V bs x) (clsA (zyj S V bs x) bs frm to).1 (clsA (zyj S V bs x) bs frm to).2).length:Int) - (j+1)).toNat v2:=by rw [show(((clsB (zyj S V bs x) (clsA (zyj S V bs x) bs frm to).1 (clsA (zyj S V bs x) bs frm to).2).length:Int) - j).toNat=(((clsB (zyj S V bs x) (clsA (zyj S V bs x) bs frm to).1 (clsA (zyj S V bs x) bs frm to).2).length:Int) - (j+1)).toNat+1 from by omega,wksF,hw2]
         refine za8 I (zaa (gM I (gM I (zaG I I (zbm en57 I (λ w hw=>zGF _ _ l w (zam zy5 (hw.has (p:=0) I)) (by unfold zaP;omega))) λ p155=>(zaG I I (zaD I (zG6 ((stpL l),p155.1,p155.2)) zBm I) λ b156=>(zb4 (m:=[((stpL l),p155.1,p155.2)]) 3 af60 zBm I I I I (λ _ hw=>(zam zBm (hw.has (p:=0) I))) (by first|omega|(simp only [lC,lN];omega)) (by first|(unfold maxLen;omega)|(simp only [lC,lN,maxLen];omega)) λ a157 c157=>(gA I (gN [3,9,10,11,12,13,14,94,95] I (zao 1 I (zao 4 I (zbT 2 (za2 (R':=Go.K.Rows rowK (L++[((stpL l,p155.1,p155.2):WkR)])) 0 I (λ B w hA=>zfr hA) (zao 3 I (zaa (gQ (zaY I I) (gM I (gN [3,9,10,11,12,13,14,94,95] I (zaK 2 I (zaK 2 I ?_)))))))))))))))))))
         exact za1 (j+1,v2,_,_,L++[((stpL l,p155.1,p155.2):WkR)]) (sB I) I ⟨⟨by omega,by omega⟩,by rw [lA];simp only [lC,lN];omega,hfv2,by rw [←j4,hwks];simp⟩ (by simp only [];omega)
      ·have hc96:=oD hc96
       have hLW:L.map (·.1)=((wksF (zyj S V bs x) frm to (clsB (zyj S V bs x) (clsA (zyj S V bs x) bs frm to).1 (clsA (zyj S V bs x) bs frm to).2).length (clsA (zyj S V bs x) bs frm to).1).map stpL):=by have h:=j4;rw [show(((clsB (zyj S V bs x) (clsA (zyj S V bs x) bs frm to).1 (clsA (zyj S V bs x) bs frm to).2).length:Int) - j).toNat=0 from by omega,wksF,List.map_nil,List.append_nil] at h;exact h
       refine za8 I (gS (gM I (gM I (gA I (gA I (gA I (gN [10,11,12] I (zaw (zao 1 I (zao 1 I (zao 2 I (zbT 3 (zBO (P:=L.map (·.1)=((wksF (zyj S V bs x) frm to (clsB (zyj S V bs x) (clsA (zyj S V bs x) bs frm to).1 (clsA (zyj S V bs x) bs frm to).2).length (clsA (zyj S V bs x) bs frm to).1).map stpL)) hLW ?_)))))))))))))
       exact zbd ((ra,rc),(ka,kc),L) 0 (zdh I (zau I) (zau I) (zau I)) I I
  ·refine za2 (R':=SepR [Box b17 (bls (nxtU (zyj S V bs x) bs frm to u).2) 110,Row (some ⟨b41,0,none⟩) 1 bs.length 3 D (outU bs u (nxtU (zyj S V bs x) bs frm to u))]) 0 I (λ B w hA=>hA) ?_
   have hyes:(nxtU (zyj S V bs x) bs frm to u).1.isSome=true:=by have h:(!(nxtU (zyj S V bs x) bs frm to u).1.isSome)=false:=hc47;rwa [nF] at h
   have hfl2:=zGr hp f0 f1 hfl hyes
   have hkl2:=zFr hft hfl2
   refine zbP (za2 (R':=Box b14 [C (some ⟨b41,0,none⟩) (outU bs u (nxtU (zyj S V bs x) bs frm to u)).length bs.length] 45) 4 I (λ B w hA=>by rw [zE1];exact hA) (zaq (zaK 0 I ?_)))
   exact za1 (k+1,_) (sB I) I ⟨by omega,hfl2,by rw [←h3,show(((zyj S V bs x).length:Int)+1 - k).toNat=(((zyj S V bs x).length:Int)+1 - (k+1)).toNat+1 from by omega,zEJ hyes]⟩ (by simp only [];omega)
end Go.Proofs.YteepmmghanbllaaGreatDoor
namespace Go.Fld
open Go Go.K Go.Stn Go.Pln
section
variable {s:Sht} {shut:Bool} {g h:Int} {l:List Opn} {x:Anm} {way:Int}
theorem zFv (h1:way = -1):mayR s shut g h l x way=(1+max (zzc s g) 0,hopG s g x):=if_pos h1
theorem zCv (h1:¬ way = -1) (h2:way<0∨(l.length:Int)≤way):mayR s shut g h l x way=(0,false):=(if_neg h1).trans (if_pos h2)
theorem zCX (h1:¬ way = -1) (h2:¬ (way<0∨(l.length:Int)≤way)) (h3:(l.getD way.toNat default).width<x.wide):mayR s shut g h l x way=(0,false):=((if_neg h1).trans (if_neg h2)).trans (if_pos h3)
theorem zCW (h1:¬ way = -1) (h2:¬ (way<0∨(l.length:Int)≤way)) (h3:¬ (l.getD way.toNat default).width<x.wide) (h4:(l.getD way.toNat default).kind=4):mayR s shut g h l x way=(1,!shut):=(((if_neg h1).trans (if_neg h2)).trans (if_neg h3)).trans (if_pos h4)
theorem zBR (h1:¬ way = -1) (h2:¬ (way<0∨(l.length:Int)≤way)) (h3:¬ (l.getD way.toNat default).width<x.wide) (h4:¬ (l.getD way.toNat default).kind=4) (h5:(l.getD way.toNat default).kind=3) :
  mayR s shut g h l x way=(1+max ((l.getD way.toNat default).frm - g) 0,decide ((l.getD way.toNat default).frm - g≤x.leap)&&decide (zy8 s (l.getD way.toNat default).frm≤x.reach)):=((((if_neg h1).trans (if_neg h2)).trans (if_neg h3)).trans (if_neg h4)).trans (if_pos h5)
theorem zCV (h1:¬ way = -1) (h2:¬ (way<0∨(l.length:Int)≤way)) (h3:¬ (l.getD way.toNat default).width<x.wide) (h4:¬ (l.getD way.toNat default).kind=4) (h5:¬ (l.getD way.toNat default).kind=3) :
  mayR s shut g h l x way=(1+max ((l.getD way.toNat default).frm - g) 0,decide ((l.getD way.toNat default).frm - g≤x.step)&&decide (x.high≤(l.getD way.toNat default).frm+(l.getD way.toNat default).high - max (l.getD way.toNat default).frm (max g h))):=((((if_neg h1).trans (if_neg h2)).trans (if_neg h3)).trans (if_neg h4)).trans (if_neg h5)
end
section
variable (S:List ShC) (V:List WlC) (bs:List Bdr) (x:Anm)
def gOf (b:Bdr) (back:Bool):Int:=if back=true then b.gB else b.gA
def hOf (b:Bdr) (back:Bool):Int:=if back=true then b.gA else b.gB
def mayB (b:Bdr) (back:Bool) (way:Int):Int×Bool:=mayR (zar S V b.wall).s b.shut (gOf b back) (hOf b back) (zaN S V b.wall).s.opens x way
def acrB (b:Bdr) (back:Bool) (n:Nat):Acr:=acrN (zar S V b.wall).s b.shut (gOf b back) (hOf b back) (zaN S V b.wall).s.opens x n
end
section
variable {S:List ShC} {V:List WlC} {cs:List ByteArray} {bs:List Bdr} {x:Anm} {b:Bdr} {back:Bool} {n:Nat}
theorem zGR:acrB S V x b back (n+1)=if ((mayB S V x b back (wayN (zaN S V b.wall).s.opens n)).2&&(!(acrB S V x b back n).some||decide ((mayB S V x b back (wayN (zaN S V b.wall).s.opens n)).1<(acrB S V x b back n).eff)))=true then⟨wayN (zaN S V b.wall).s.opens n,(mayB S V x b back (wayN (zaN S V b.wall).s.opens n)).1,true⟩ else acrB S V x b back n:=rfl
theorem zFB (_h:zym S V cs bs x=true) {i:Int} (h0:0≤i) (h1:i<bs.length) (back:Bool):zAN (acrB S V x (bs.getD i.toNat default) back ((zaN S V (bs.getD i.toNat default).wall).s.opens.length+1))=((wayI S V bs x i back).way,(wayI S V bs x i back).eff):=by
 have hw:(zyj S V bs x).getD i.toNat default=wayB S V x i.toNat (bs.getD i.toNat default):=by
  unfold zyj
  rw [gE,List.getElem?_map,List.getElem?_range (by omega)];rfl
 show zAN (acrG _ _ (gOf _ back) (hOf _ back) _ _)=_
 rw [zED]
 unfold wayI
 rw [hw]
 cases back <;> rfl
end
def zBG (n:Nat) (i:Int):Bool:=decide (0≤i)&&decide (i<(n:Int))
theorem zIN {n:Nat} {i:Int}:outC n i = !zBG n i:=by
 unfold outC zBG inZ
 congr 2
 exact decide_eq_decide.2 (by omega)
end Go.Fld
namespace Go.Pln
open Go Go.K Go.RowKit Go.Stn
theorem zn1 {s:Sht} (hs:za4 s=true) {z:Int} (h0:0≤z) (h1:z≤s.height):zfv s z=zb5 s z:=by
 have hn:=zaZ hs
 exact zfM hn.batter hn.base h0 (by have:=hn.height;omega)
end Go.Pln