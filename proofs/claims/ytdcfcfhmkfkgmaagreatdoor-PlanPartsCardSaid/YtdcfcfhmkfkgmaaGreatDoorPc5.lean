/- What the proof of the root text leans on, part 5: the layer, plain facts and walks. No statement of the seat is proved in this text. -/
import Derived.Shelf.Strconv.AtoiAll
import Derived.Shelf.Strconv.Itoa3
import Derived.Shelf.Strings.Cut
import Derived.Shelf.Strings.Split
import Derived.Test.YtdcfcfhmkfkgmaaGreatDoorProg
import Derived.Test.YtdcfcfhmkfkgmaaGreatDoorPc4
namespace Go.Proofs
open Go.Shelf
def Tryz.lays145_ren:Go.Shelf.Ren:=⟨fun | 145=>86 | 220=>107 | 219=>127 | 217=>144 | 225=>145 | 224=>146 | 267=>147 | 266=>164 | 314=>165 | n=>n,fun | 9=>9 | 4=>4 | 59=>155 | 3=>3 | 5=>5 | 46=>90 | 146=>235 | 51=>234 | n=>n,fun | 1=>2 | n=>n⟩
theorem Tryz.lays145:Go.Proofs.Lays.n145 Tryz.prog Tryz.lays145_ren:={
 mixed:=by kernel_rfl
 f145:=Tryz.func86.trans (congrArg some (by kernel_rfl))
 f217:=Tryz.func144.trans (congrArg some (by kernel_rfl))
 f219:=Tryz.func127.trans (congrArg some (by kernel_rfl))
 f220:=Tryz.func107.trans (congrArg some (by kernel_rfl))
 f224:=Tryz.func146.trans (congrArg some (by kernel_rfl))
 f225:=Tryz.func145.trans (congrArg some (by kernel_rfl))
 f266:=Tryz.func164.trans (congrArg some (by kernel_rfl))
 f267:=Tryz.func147.trans (congrArg some (by kernel_rfl))
 f314:=Tryz.func165.trans (congrArg some (by kernel_rfl))
 t3:=Tryz.underlying3
 a3:=Tryz.isAgg3
 z3:=Tryz.sizeOf3
 v3:=Tryz.zeroValue3
 t4:=Tryz.underlying4
 a4:=Tryz.isAgg4
 z4:=Tryz.sizeOf4
 v4:=Tryz.zeroValue4
 t5:=Tryz.underlying5
 a5:=Tryz.isAgg5
 z5:=Tryz.sizeOf5
 v5:=Tryz.zeroValue5
 t9:=Tryz.underlying9
 a9:=Tryz.isAgg9
 z9:=Tryz.sizeOf9
 v9:=Tryz.zeroValue9
 t46:=Tryz.underlying90
 a46:=Tryz.isAgg90
 z46:=Tryz.sizeOf90
 v46:=Tryz.zeroValue90
 t51:=Tryz.underlying234
 a51:=Tryz.isAgg234
 z51:=Tryz.sizeOf234
 v51:=Tryz.zeroValue234
 t59:=Tryz.underlying155
 a59:=Tryz.isAgg155
 z59:=Tryz.sizeOf155
 v59:=Tryz.zeroValue155
 t146:=Tryz.underlying235
 a146:=Tryz.isAgg235
 z146:=Tryz.sizeOf235
 v146:=Tryz.zeroValue235
 g1:=by kernel_rfl }
def Tryz.lays146_ren:Go.Shelf.Ren:=⟨fun | 146=>88 | 221=>108 | 268=>128 | 138=>129 | 143=>130 | 195=>148 | 197=>149 | 218=>150 | 219=>127 | 260=>166 | 217=>144 | 225=>145 | 224=>146 | 267=>147 | 266=>164 | 314=>165 | n=>n,fun | 9=>9 | 31=>124 | 3=>3 | 4=>4 | 0=>0 | 105=>220 | 21=>21 | 5=>5 | 46=>90 | 119=>249 | 139=>252 | 138=>251 | 146=>235 | 51=>234 | n=>n,fun | 1=>2 | 3=>4 | 4=>5 | n=>n⟩
theorem Tryz.lays146:Go.Proofs.Lays.n146 Tryz.prog Tryz.lays146_ren:={
 mixed:=by kernel_rfl
 f138:=Tryz.func129.trans (congrArg some (by kernel_rfl))
 f143:=Tryz.func130.trans (congrArg some (by kernel_rfl))
 f146:=Tryz.func88.trans (congrArg some (by kernel_rfl))
 f195:=Tryz.func148.trans (congrArg some (by kernel_rfl))
 f197:=Tryz.func149.trans (congrArg some (by kernel_rfl))
 f217:=Tryz.func144.trans (congrArg some (by kernel_rfl))
 f218:=Tryz.func150.trans (congrArg some (by kernel_rfl))
 f219:=Tryz.func127.trans (congrArg some (by kernel_rfl))
 f221:=Tryz.func108.trans (congrArg some (by kernel_rfl))
 f224:=Tryz.func146.trans (congrArg some (by kernel_rfl))
 f225:=Tryz.func145.trans (congrArg some (by kernel_rfl))
 f260:=Tryz.func166.trans (congrArg some (by kernel_rfl))
 f266:=Tryz.func164.trans (congrArg some (by kernel_rfl))
 f267:=Tryz.func147.trans (congrArg some (by kernel_rfl))
 f268:=Tryz.func128.trans (congrArg some (by kernel_rfl))
 f314:=Tryz.func165.trans (congrArg some (by kernel_rfl))
 t0:=Tryz.underlying0
 a0:=Tryz.isAgg0
 z0:=Tryz.sizeOf0
 v0:=Tryz.zeroValue0
 t3:=Tryz.underlying3
 a3:=Tryz.isAgg3
 z3:=Tryz.sizeOf3
 v3:=Tryz.zeroValue3
 t4:=Tryz.underlying4
 a4:=Tryz.isAgg4
 z4:=Tryz.sizeOf4
 v4:=Tryz.zeroValue4
 t5:=Tryz.underlying5
 a5:=Tryz.isAgg5
 z5:=Tryz.sizeOf5
 v5:=Tryz.zeroValue5
 t9:=Tryz.underlying9
 a9:=Tryz.isAgg9
 z9:=Tryz.sizeOf9
 v9:=Tryz.zeroValue9
 t21:=Tryz.underlying21
 a21:=Tryz.isAgg21
 z21:=Tryz.sizeOf21
 v21:=Tryz.zeroValue21
 t31:=Tryz.underlying124
 a31:=Tryz.isAgg124
 z31:=Tryz.sizeOf124
 v31:=Tryz.zeroValue124
 t46:=Tryz.underlying90
 a46:=Tryz.isAgg90
 z46:=Tryz.sizeOf90
 v46:=Tryz.zeroValue90
 t51:=Tryz.underlying234
 a51:=Tryz.isAgg234
 z51:=Tryz.sizeOf234
 v51:=Tryz.zeroValue234
 t105:=Tryz.underlying220
 a105:=Tryz.isAgg220
 z105:=Tryz.sizeOf220
 v105:=Tryz.zeroValue220
 t119:=Tryz.underlying249
 a119:=Tryz.isAgg249
 z119:=Tryz.sizeOf249
 t138:=Tryz.underlying251
 a138:=Tryz.isAgg251
 z138:=Tryz.sizeOf251
 v138:=Tryz.zeroValue251
 t139:=Tryz.underlying252
 a139:=Tryz.isAgg252
 z139:=Tryz.sizeOf252
 v139:=Tryz.zeroValue252
 t146:=Tryz.underlying235
 a146:=Tryz.isAgg235
 z146:=Tryz.sizeOf235
 v146:=Tryz.zeroValue235
 g1:=by kernel_rfl
 g3:=by kernel_rfl
 g4:=by kernel_rfl }
def Tryz.laysC172_ren:Go.Shelf.Ren:=⟨fun | 172=>134 | 244=>152 | 245=>153 | 247=>167 | 279=>168 | 280=>169 | 281=>170 | 282=>171 | 287=>180 | 316=>181 | 171=>102 | 205=>182 | 321=>194 | 322=>195 | 243=>122 | 246=>141 | 283=>158 | 284=>159 | 285=>160 | 286=>161 | 129=>176 | 317=>175 | 318=>177 | 319=>178 | 320=>179 | 337=>192 | 338=>193 | n=>n,fun | 9=>9 | 3=>3 | 75=>200 | 76=>201 | 4=>4 | 5=>5 | 167=>237 | 37=>195 | 0=>0 | 85=>238 | 2=>2 | 168=>240 | 53=>226 | 175=>253 | 46=>90 | 210=>257 | 127=>218 | 145=>270 | 143=>268 | 21=>21 | 171=>225 | 173=>229 | 212=>247 | 51=>234 | 20=>20 | 213=>248 | 232=>276 | 233=>277 | 80=>104 | n=>n,fun | 15=>6 | 16=>7 | 17=>3 | 18=>8 | 19=>9 | n=>n⟩
theorem Tryz.laysC172:Go.Proofs.LaysC.n172 Tryz.prog Tryz.laysC172_ren:={
 mixed:=by kernel_rfl
 f129:=Tryz.func176.trans (congrArg some (by kernel_rfl))
 f171:=Tryz.func102.trans (congrArg some (by kernel_rfl))
 f172:=Tryz.func134.trans (congrArg some (by kernel_rfl))
 f205:=Tryz.func182.trans (congrArg some (by kernel_rfl))
 f243:=Tryz.func122.trans (congrArg some (by kernel_rfl))
 f244:=Tryz.func152.trans (congrArg some (by kernel_rfl))
 f245:=Tryz.func153.trans (congrArg some (by kernel_rfl))
 f246:=Tryz.func141.trans (congrArg some (by kernel_rfl))
 f247:=Tryz.func167.trans (congrArg some (by kernel_rfl))
 f279:=Tryz.func168.trans (congrArg some (by kernel_rfl))
 f280:=Tryz.func169.trans (congrArg some (by kernel_rfl))
 f281:=Tryz.func170.trans (congrArg some (by kernel_rfl))
 f282:=Tryz.func171.trans (congrArg some (by kernel_rfl))
 f283:=Tryz.func158.trans (congrArg some (by kernel_rfl))
 f284:=Tryz.func159.trans (congrArg some (by kernel_rfl))
 f285:=Tryz.func160.trans (congrArg some (by kernel_rfl))
 f286:=Tryz.func161.trans (congrArg some (by kernel_rfl))
 f287:=Tryz.func180.trans (congrArg some (by kernel_rfl))
 f316:=Tryz.func181.trans (congrArg some (by kernel_rfl))
 f317:=Tryz.func175.trans (congrArg some (by kernel_rfl))
 f318:=Tryz.func177.trans (congrArg some (by kernel_rfl))
 f319:=Tryz.func178.trans (congrArg some (by kernel_rfl))
 f320:=Tryz.func179.trans (congrArg some (by kernel_rfl))
 f321:=Tryz.func194.trans (congrArg some (by kernel_rfl))
 f322:=Tryz.func195.trans (congrArg some (by kernel_rfl))
 f337:=Tryz.func192.trans (congrArg some (by kernel_rfl))
 f338:=Tryz.func193.trans (congrArg some (by kernel_rfl))
 t0:=Tryz.underlying0
 a0:=Tryz.isAgg0
 z0:=Tryz.sizeOf0
 v0:=Tryz.zeroValue0
 t2:=Tryz.underlying2
 a2:=Tryz.isAgg2
 z2:=Tryz.sizeOf2
 v2:=Tryz.zeroValue2
 t3:=Tryz.underlying3
 a3:=Tryz.isAgg3
 z3:=Tryz.sizeOf3
 v3:=Tryz.zeroValue3
 t4:=Tryz.underlying4
 a4:=Tryz.isAgg4
 z4:=Tryz.sizeOf4
 v4:=Tryz.zeroValue4
 t5:=Tryz.underlying5
 a5:=Tryz.isAgg5
 z5:=Tryz.sizeOf5
 v5:=Tryz.zeroValue5
 t9:=Tryz.underlying9
 a9:=Tryz.isAgg9
 z9:=Tryz.sizeOf9
 v9:=Tryz.zeroValue9
 t20:=Tryz.underlying20
 a20:=Tryz.isAgg20
 z20:=Tryz.sizeOf20
 v20:=Tryz.zeroValue20
 t21:=Tryz.underlying21
 a21:=Tryz.isAgg21
 z21:=Tryz.sizeOf21
 v21:=Tryz.zeroValue21
 t37:=Tryz.underlying195
 a37:=Tryz.isAgg195
 z37:=Tryz.sizeOf195
 v37:=Tryz.zeroValue195
 t46:=Tryz.underlying90
 a46:=Tryz.isAgg90
 z46:=Tryz.sizeOf90
 v46:=Tryz.zeroValue90
 t51:=Tryz.underlying234
 a51:=Tryz.isAgg234
 z51:=Tryz.sizeOf234
 v51:=Tryz.zeroValue234
 t53:=Tryz.underlying226
 a53:=Tryz.isAgg226
 z53:=Tryz.sizeOf226
 v53:=Tryz.zeroValue226
 t75:=Tryz.underlying200
 a75:=Tryz.isAgg200
 z75:=Tryz.sizeOf200
 v75:=Tryz.zeroValue200
 t76:=Tryz.underlying201
 a76:=Tryz.isAgg201
 z76:=Tryz.sizeOf201
 v76:=Tryz.zeroValue201
 t85:=Tryz.underlying238
 a85:=Tryz.isAgg238
 z85:=Tryz.sizeOf238
 v85:=Tryz.zeroValue238
 t127:=Tryz.underlying218
 a127:=Tryz.isAgg218
 z127:=Tryz.sizeOf218
 v127:=Tryz.zeroValue218
 t143:=Tryz.underlying268
 a143:=Tryz.isAgg268
 z143:=Tryz.sizeOf268
 v143:=Tryz.zeroValue268
 t145:=Tryz.underlying270
 a145:=Tryz.isAgg270
 z145:=Tryz.sizeOf270
 v145:=Tryz.zeroValue270
 t167:=Tryz.underlying237
 a167:=Tryz.isAgg237
 z167:=Tryz.sizeOf237
 v167:=Tryz.zeroValue237
 t168:=Tryz.underlying240
 a168:=Tryz.isAgg240
 z168:=Tryz.sizeOf240
 v168:=Tryz.zeroValue240
 t171:=Tryz.underlying225
 a171:=Tryz.isAgg225
 z171:=Tryz.sizeOf225
 v171:=Tryz.zeroValue225
 t173:=Tryz.underlying229
 a173:=Tryz.isAgg229
 z173:=Tryz.sizeOf229
 v173:=Tryz.zeroValue229
 t175:=Tryz.underlying253
 a175:=Tryz.isAgg253
 z175:=Tryz.sizeOf253
 v175:=Tryz.zeroValue253
 t210:=Tryz.underlying257
 a210:=Tryz.isAgg257
 z210:=Tryz.sizeOf257
 v210:=Tryz.zeroValue257
 t212:=Tryz.underlying247
 a212:=Tryz.isAgg247
 z212:=Tryz.sizeOf247
 v212:=Tryz.zeroValue247
 t213:=Tryz.underlying248
 a213:=Tryz.isAgg248
 z213:=Tryz.sizeOf248
 t232:=Tryz.underlying276
 a232:=Tryz.isAgg276
 z232:=Tryz.sizeOf276
 v232:=Tryz.zeroValue276
 t233:=Tryz.underlying277
 a233:=Tryz.isAgg277
 z233:=Tryz.sizeOf277
 v233:=Tryz.zeroValue277
 g15:=by kernel_rfl
 g16:=by kernel_rfl
 g17:=by kernel_rfl
 g18:=by kernel_rfl
 g19:=by kernel_rfl
 t80:=Tryz.underlying104
 a80:=Tryz.isAgg104
 z80:=Tryz.sizeOf104
 v80:=Tryz.zeroValue104
 i0:=by kernel_rfl
 i2:=by kernel_rfl
 i3:=by kernel_rfl
 i4:=by kernel_rfl
 i5:=by kernel_rfl
 i9:=by kernel_rfl
 i20:=by kernel_rfl
 i21:=by kernel_rfl
 i37:=by kernel_rfl
 i46:=by kernel_rfl
 i51:=by kernel_rfl
 i53:=by kernel_rfl
 i75:=by kernel_rfl
 i76:=by kernel_rfl
 i80:=by kernel_rfl
 i85:=by kernel_rfl
 i127:=by kernel_rfl
 i143:=by kernel_rfl
 i145:=by kernel_rfl
 i167:=by kernel_rfl
 i168:=by kernel_rfl
 i171:=by kernel_rfl
 i173:=by kernel_rfl
 i175:=by kernel_rfl
 i210:=by kernel_rfl
 i212:=by kernel_rfl
 i232:=by kernel_rfl
 i233:=by kernel_rfl
 m15:=by kernel_rfl
 m16:=by kernel_rfl
 m17:=by kernel_rfl
 m18:=by kernel_rfl
 m19:=by kernel_rfl
 c0:=by kernel_rfl
 c2:=by kernel_rfl
 c3:=by kernel_rfl
 c4:=by kernel_rfl
 c5:=by kernel_rfl
 c9:=by kernel_rfl
 c20:=by kernel_rfl
 c21:=by kernel_rfl
 c37:=by kernel_rfl
 c46:=by kernel_rfl
 c51:=by kernel_rfl
 c53:=by kernel_rfl
 c75:=by kernel_rfl
 c76:=by kernel_rfl
 c80:=by kernel_rfl
 c85:=by kernel_rfl
 c127:=by kernel_rfl
 c143:=by kernel_rfl
 c145:=by kernel_rfl
 c167:=by kernel_rfl
 c168:=by kernel_rfl
 c171:=by kernel_rfl
 c173:=by kernel_rfl
 c175:=by kernel_rfl
 c210:=by kernel_rfl
 c212:=by kernel_rfl
 c213:=by kernel_rfl
 c232:=by kernel_rfl
 c233:=by kernel_rfl }
end Go.Proofs
namespace Go.Proofs.YtdcfcfhmkfkgmaaGreatDoor
open Go.K Go.Stn Go.Pln Go.RowKit
theorem en135:En Tryz.prog 135:=en_of Tryz.func135 (by kernel_rfl) (by kernel_rfl)
theorem en151:En Tryz.prog 151:=en_of Tryz.func151 (by kernel_rfl) (by kernel_rfl)
theorem cut_c (s sep:ByteArray) (w:World) (hs:s.size < 4294967281) (hm:Has w (IntV 2)):Calls Tryz.prog 86 #[.string s,.string sep] w (Pure (cutV s sep) w):=cut_pure Tryz.lays145 s sep w hs hm
theorem split_c (s:ByteArray) (c:UInt8) (w:World) (hs:s.size < 4294967281) (hm:Has w (IntV 2)):Calls Tryz.prog 88 #[.string s,.string ⟨#[c]⟩] w (Gives (fun b:Nat=>.slice (some ⟨b,0,none⟩) (splitL s c).length (splitL s c).length) (fun b=>Row (some ⟨b,0,none⟩) 1 (splitL s c).length 9 encS (splitL s c)) w):=split_gives Tryz.lays146 (by kernel_rfl) s c w hs hm
theorem atoi_c (s:ByteArray) (w:World) (h:numW s=true):Calls Tryz.prog 134 #[.string s] w (Pure (.tuple #[.int .i64 (atoiV s),.nilIface]) w):=by
 have hs:=numW_len h
 refine(Go.Proofs.Any.strconv_Atoi_ok Tryz.laysC172 s (by omega) (atoiV s) (atoiV_num h).1 w).mono ?_
 rintro e w' ⟨rfl,hw⟩
 refine⟨rfl,?_⟩
 rcases hw with rfl | ⟨t,rfl⟩
 ·exact Ext.rfl
 ·exact ext_bytesWorld _ _ _
set_option maxRecDepth 100000 in
set_option maxHeartbeats 1000000 in
theorem isnumber_c (s:ByteArray) (w:World)  :
  Calls Tryz.prog 133 #[.string s] w (Pure (.bool (numW s)) w):=by
 refine calls_of_gk (vs:=[_]) Tryz.func133 rfl rfl (Nat.le_of_ble_eq_true rfl) ?_
 refine gk_seq ?_
 refine gk_region ?_
 refine gk_y rfl rfl (y_assign rfl) ?_
 refine gk_nil (gk_sub (T':=[(0,_),(2,_)]) ⟨rfl,rfl,trivial⟩ ?_)
 refine gk_seq ?_
 refine gk_region ?_
 refine gk_y rfl rfl (y_assign rfl) ?_
 refine gk_nil (gk_sub (T':=[(0,_),(2,_),(3,_)]) ⟨rfl,rfl,rfl,trivial⟩ ?_)
 refine gk_seq ?_
 refine gk_any 23 (fun _=>mixed) (by kernel_rfl) ?_
 refine ph_y (y_move rfl) ?_
 refine ph_y (y_strNe rfl rfl) ?_
 refine ph_y (y_move rfl) ?_
 refine ph_gT rfl rfl (fun hgd=>by(try rw [hgd]); (try have hgd2:=num_pos hgd); exact(y_move rfl)) ?_
 refine ph_gT rfl rfl (fun hgd=>by(try rw [hgd]); (try have hgd2:=num_pos hgd); exact(y_lenStr (Tryz.underlying9) rfl)) ?_
 refine ph_gT rfl rfl (fun hgd=>by(try rw [hgd]); (try have hgd2:=num_pos hgd); exact(y_leq rfl rfl)) ?_
 refine ph_y (y_pickAnd rfl rfl rfl) ?_
 refine ph_y (y_move rfl) ?_
 refine ph_gT rfl rfl (fun hgd=>by(try rw [hgd]); (try have hgd2:=num_pos hgd); exact(y_move rfl)) ?_
 refine ph_gT rfl rfl (fun hgd=>by(try rw [hgd]); (try have hgd2:=num_pos hgd); exact(y_move rfl)) ?_
 refine ph_gT rfl rfl (fun hgd=>by(try rw [hgd]); (try have hgd2:=num_pos hgd); exact(y_call (v:=.bool (decide (0≤idxRune oddN s 0))) en83 rfl (fun w hw=>scontains_c s oddN _ [] w (fun _=>True) (fun _ _=>trivial) en151 (fun r w _=>isnumber1_c r w)))) ?_
 refine ph_gT rfl rfl (fun hgd=>by(try rw [hgd]); (try have hgd2:=num_pos hgd); exact(y_not rfl)) ?_
 refine ph_y (y_pickAnd rfl rfl rfl) ?_
 refine ph_y (y_move rfl) ?_
 refine ph_gT rfl rfl (fun hgd=>by(try rw [hgd]); (try have hgd2:=num_pos hgd); exact(y_move rfl)) ?_
 refine ph_gT rfl rfl (fun hgd=>by(try rw [hgd]); (try have hgd2:=num_pos hgd); exact(y_strIndex (Tryz.underlying9) rfl rfl (by omega) (by omega))) ?_
 refine ph_gT rfl rfl (fun hgd=>by(try rw [hgd]); (try have hgd2:=num_pos hgd); exact(y_neq rfl rfl)) ?_
 refine ph_gT rfl rfl (fun hgd=>by(try rw [hgd]); (try have hgd2:=num_pos hgd); exact(y_move rfl)) ?_
 refine ph_gTF rfl rfl (fun hgd=>by(try rw [hgd]); (try have hgd2:=num_pos hgd); exact(y_move rfl)) ?_
 refine ph_gTF rfl rfl (fun hgd=>by(try rw [hgd]); (try have hgd2:=num_pos hgd); exact(y_strEq rfl rfl)) ?_
 refine ph_gT rfl rfl (fun hgd=>by(try rw [hgd]); (try have hgd2:=num_pos hgd); exact(y_pickOr rfl rfl rfl)) ?_
 refine ph_y (y_pickAnd rfl rfl rfl) ?_
 refine ph_y (y_assign rfl) ?_
 refine gk_nil (gk_sub (T':=[(2,_)]) ⟨rfl,trivial⟩ ?_)
 refine gk_ret ?_
 refine gk_pure (rv_one rfl (r1_tmp rfl)) ?_
 rfl
set_option maxRecDepth 100000 in
set_option maxHeartbeats 1000000 in
theorem index_c (a:Option Addr) (cap:Nat) (l:List ByteArray) (v:ByteArray) (w:World) (hl:Has w (Elems a 1 encS l)) (hs:Small l.length) :
  Calls Tryz.prog 135 #[.slice a l.length cap,.string v] w (Pure (.int .i64 (findI (fun y=>v.toList == y.toList) l)) w):=by
 refine calls_of_gk (vs:=[_,_]) Tryz.func135 rfl rfl (Nat.le_of_ble_eq_true rfl) ?_
 refine gk_seq ?_
 refine gk_region ?_
 refine gk_y rfl rfl (y_assign rfl) ?_
 refine gk_nil (gk_sub (T':=[(0,_),(1,_),(4,_)]) ⟨rfl,rfl,rfl,trivial⟩ ?_)
 refine gk_seq ?_
 refine gk_seq ?_
 refine gk_region ?_
 refine gk_y rfl rfl (y_move rfl) ?_
 refine gk_y rfl rfl (y_lenS (Tryz.underlying124) rfl) ?_
 refine gk_y rfl rfl (y_move rfl) ?_
 refine gk_nil (gk_sub (T':=[(0,_),(1,_),(4,_),(7,_),(8,_)]) ⟨rfl,rfl,rfl,rfl,rfl,trivial⟩ ?_)
 refine gk_block ?_
 refine gk_loop (X:=Int) (fun(i:Int)=>[(0,.slice a l.length cap),(1,.string v),(4,.int .i64 0),(7,.int .i64 (l.length:Int)),(8,.int .i64 i)]) (fun(i:Int)=>[]) (fun(i:Int)=>(0≤i∧i≤l.length∧∀ j:Nat,(j:Int) < i→(v.toList == (l.getD j default).toList)=false)) (fun(i:Int)=>(l.length - i).toNat) 0 ⟨rfl,rfl,rfl,rfl,rfl,trivial⟩ rfl ?_ ?_
 ·exact⟨by omega,by omega,fun j hj=>by omega⟩
 ·rintro i hI
  obtain⟨g0,g1,g2⟩:=hI
  refine gk_seq ?_
  refine gk_region ?_
  refine gk_y rfl rfl (y_lss rfl rfl) ?_
  refine gk_nil (gk_sub (T':=[(0,_),(1,_),(4,_),(7,_),(8,_),(9,_)]) ⟨rfl,rfl,rfl,rfl,rfl,rfl,trivial⟩ ?_)
  refine gk_seq ?_
  refine gk_cond rfl (fun hc9=>?_) (fun hc9=>?_)
  ·simp only [decide_eq_true_eq] at hc9
   refine gk_skip ?_
   refine gk_seq ?_
   refine gk_block ?_
   refine gk_seq ?_
   refine gk_region ?_
   refine gk_y rfl rfl (y_move rfl) ?_
   refine gk_y rfl rfl (y_assign rfl) ?_
   refine gk_nil (gk_sub (T':=[(0,_),(1,_),(4,_),(5,_),(7,_),(8,_)]) ⟨rfl,rfl,rfl,rfl,rfl,rfl,trivial⟩ ?_)
   refine gk_seq ?_
   refine gk_region ?_
   refine gk_y rfl rfl (y_move rfl) ?_
   refine gk_y rfl rfl (y_move rfl) ?_
   refine gk_y rfl rfl (y_move rfl) ?_
   refine gk_y rfl rfl (y_indexE se124 rfl rfl (fun _ hw=>(Rd.has (Has.rd hl) hw)) (by omega) (by omega)) ?_
   refine gk_y rfl rfl (y_loadE1 tf9 rfl (fun _ hw=>(Rd.has (Has.rd hl) hw)) (by omega) (by omega) rfl) ?_
   refine gk_y rfl rfl (y_strEq rfl rfl) ?_
   refine gk_nil (gk_sub (T':=[(0,_),(1,_),(4,_),(5,_),(7,_),(8,_),(16,_)]) ⟨rfl,rfl,rfl,rfl,rfl,rfl,rfl,trivial⟩ ?_)
   refine gk_cond rfl (fun hc16=>?_) (fun hc16=>?_)
   ·
    refine gk_seq ?_
    refine gk_region ?_
    refine gk_y rfl rfl (y_move rfl) ?_
    refine gk_y rfl rfl (y_assign rfl) ?_
    refine gk_nil (gk_sub (T':=[(0,_),(1,_),(4,_),(7,_),(8,_)]) ⟨rfl,rfl,rfl,rfl,rfl,trivial⟩ ?_)
    refine gk_ret ?_
    refine gk_pure (rv_one rfl (r1_tmp rfl)) ?_
    exact congrArg (fun x=>Value.int .i64 x) (findI_hit (p:=fun y:ByteArray=>v.toList == y.toList) g0 (by omega) g2 hc16).symm
   ·
    refine gk_skip ?_
    refine gk_region ?_
    refine gk_y rfl rfl (y_addI rfl rfl (by omega) (by omega)) ?_
    refine gk_y rfl rfl (y_move rfl) ?_
    refine gk_nil (gk_sub (T':=[(0,_),(1,_),(4,_),(7,_),(8,_)]) ⟨rfl,rfl,rfl,rfl,rfl,trivial⟩ ?_)
    exact gk_next _ ⟨rfl,rfl,rfl,rfl,rfl,trivial⟩ rfl ⟨by omega,by omega,fun j hj=>if h:(j:Int) < i then g2 j h else(by rw [show j=i.toNat from by omega]; exact hc16)⟩ (by omega)
  ·simp only [decide_eq_false_iff_not] at hc9
   refine gk_exit rfl ?_
   refine gk_seq ?_
   refine gk_region ?_
   refine gk_y rfl rfl (y_assign rfl) ?_
   refine gk_nil (gk_sub (T':=[(4,_)]) ⟨rfl,trivial⟩ ?_)
   refine gk_ret ?_
   refine gk_pure (rv_one rfl (r1_tmp rfl)) ?_
   exact congrArg (fun x=>Value.int .i64 x) (findI_none (p:=fun y:ByteArray=>v.toList == y.toList) (fun j hj=>g2 j (by omega))).symm
set_option maxRecDepth 100000 in
set_option maxHeartbeats 1000000 in
theorem kind_c (r:Nat) (ws:List ByteArray) (a:Option Addr) (cap:Nat) (l:List ByteArray) (f:Nat) (w:World) (B:Nat→Prop) (hB:∀ k,B k→k < w.heap.size) (hA:(Rdr 161 r ws).A B w) (hl:Rd (fun k=>k < w.heap.size∧¬ B k) w (Elems a 1 encS l)) (hs:l.length≤200) (hcap:l.length≤cap) (hf:f≤l.length) :
  Calls Tryz.prog 116 #[.pointer (some ⟨r,0,none⟩),.slice a l.length cap,.int .i64 (f:Int)] w (TurnsE 33 (kindE l f ws) (fun x (_:Unit)=>.int .u8 x.1) (fun x _=>Rdr 161 r x.2) B w):=by
 refine calls_of_gkB hB hA (vs:=[_,_,_]) Tryz.func116 rfl rfl (Nat.le_of_ble_eq_true rfl) ?_
 refine gk_seq ?_
 refine gk_region ?_
 refine gk_y rfl rfl (y_assign rfl) ?_
 refine gk_nil (gk_sub (T':=[(0,_),(1,_),(2,_),(6,_)]) ⟨rfl,rfl,rfl,rfl,trivial⟩ ?_)
 refine gk_seq ?_
 refine gk_anyC (Z:={ z:(ByteArray×List ByteArray)×Unit // nextE ws=.ok z.1 }) (V:=fun z=>.string z.1.1.1) (R':=fun z=>Rdr 161 r z.1.1.2) (Bad:=fun ch=>∃ k,nextE ws=.error k∧ch=thrC (errT 33 k)) 4 [0,1,2] 0 12 (fun _=>mixed) rfl rfl (by kernel_rfl) rfl ?_ rfl ?_
 ·rintro _ ⟨k,hk12,rfl⟩
  exact gk_thrownE (by rw [kindE,hk12]; rfl)
 refine phs_y (y_move rfl) ?_
 refine phs_y (y_move rfl) ?_
 refine phs_y (y_sliceLoL se124 rfl rfl (by omega) (by omega)) ?_
 refine phs_y (y_move rfl) ?_
 refine⟨(co_callE (M:=Unit) (te:=33) (res:=nextE ws) (V:=fun x _=>.string x.1) (J:=fun x _=>Rdr 161 r x.2) en90 rfl (fun w B hB hA=>next_c r ws w B hB hA)),?_⟩
 rintro ⟨⟨x12,m12⟩,hx12⟩
 replace hx12:nextE ws=.ok x12:=hx12
 refine gk_sub (T':=[(2,_),(6,_),(10,_),(12,_)]) ⟨rfl,rfl,rfl,rfl,trivial⟩ ?_
 refine gk_y rfl rfl (y_call en135 rfl (fun w hw=>index_c _ _ _ x12.1 w (elems_drop (Rd.has hl hw) hcap (by omega)) (by rw [List.length_drop]; unfold Small; omega))) ?_
 refine gk_y rfl rfl (y_assign rfl) ?_
 refine gk_nil (gk_sub (T':=[(2,_),(6,_),(7,_)]) ⟨rfl,rfl,rfl,trivial⟩ ?_)
 refine gk_seq ?_
 refine gk_seq ?_
 refine gk_region ?_
 refine gk_y rfl rfl (y_move rfl) ?_
 refine gk_y rfl rfl (y_lss rfl rfl) ?_
 refine gk_nil (gk_sub (T':=[(2,_),(6,_),(7,_),(15,_)]) ⟨rfl,rfl,rfl,rfl,trivial⟩ ?_)
 refine gk_cond rfl (fun hc15=>?_) (fun hc15=>?_)
 ·have h15:=of_decide_eq_true hc15
  refine gk_region ?_
  refine gk_callP en91 rfl (fun w hw=>fail_c _ w) ?_
  exact gk_thrownE (by rw [kindE,hx12,ok_bind]; exact if_pos h15)
 ·have h15:=of_decide_eq_false hc15
  have hlt:=findI_lt (fun y=>x12.1.toList == y.toList) (l.drop (f:Int).toNat)
  rw [List.length_drop] at hlt
  refine gk_skip ?_
  refine gk_seq ?_
  refine gk_region ?_
  refine gk_y rfl rfl (y_move rfl) ?_
  refine gk_y rfl rfl (y_move rfl) ?_
  refine gk_y rfl rfl (y_addI rfl rfl (by omega) (by omega)) ?_
  refine gk_y rfl rfl (y_convInt (by kernel_rfl) (Tryz.underlying5) rfl) ?_
  refine gk_y rfl rfl (y_assign rfl) ?_
  refine gk_nil (gk_sub (T':=[(6,_)]) ⟨rfl,trivial⟩ ?_)
  refine gk_ret ?_
  exact gk_turnsE ((findI (fun y=>x12.1.toList == y.toList) (l.drop (f:Int).toNat))+f,x12.2) () 0 (rv_one rfl (r1_tmp rfl)) (congrArg (fun x=>Value.int .u8 x) (wrapU8 (n:=(findI (fun y=>x12.1.toList == y.toList) (l.drop (f:Int).toNat))+(f:Int)) (by omega) (by omega))) rfl (by rw [kindE,hx12,ok_bind]; exact if_neg h15)
end Go.Proofs.YtdcfcfhmkfkgmaaGreatDoor
namespace Go.Proofs.YtdcfcfhmkfkgmaaGreatDoor
open Go.K Go.Stn Go.Pln Go.RowKit
theorem tf158:TF Tryz.prog 158 false 1 (.pointer none):=⟨by kernel_rfl,by kernel_rfl⟩
theorem tf186:TF Tryz.prog 186 false 1 (.pointer none):=⟨by kernel_rfl,by kernel_rfl⟩
theorem se206:SE Tryz.prog 206 186 1:=⟨Tryz.underlying206,by kernel_rfl⟩
theorem en114:En Tryz.prog 114:=en_of Tryz.func114 (by kernel_rfl) (by kernel_rfl)
theorem en132:En Tryz.prog 132:=en_of Tryz.func132 (by kernel_rfl) (by kernel_rfl)
theorem en133:En Tryz.prog 133:=en_of Tryz.func133 (by kernel_rfl) (by kernel_rfl)
theorem en134:En Tryz.prog 134:=en_of Tryz.func134 (by kernel_rfl) (by kernel_rfl)
theorem getD_mem0 {l:List Nat} {i:Nat} (h:i < l.length):l.getD i 0∈l:=by simp [h]
set_option maxRecDepth 100000 in
set_option maxHeartbeats 1000000 in
theorem numbers_c (r:Nat) (ws:List ByteArray) (b:Nat) (cs:List Value) (t:TypeId) (os:List Nat) (ps:List (Nat×Nat)) (a:Option Addr) (cap:Nat) (w:World) (B:Nat→Prop) (hB:∀ k,B k→k < w.heap.size) (hA:(SepR [Rdr 161 r ws,Box b cs t]).A B w) (hl:Rd (fun k=>k < w.heap.size∧¬ B k) w (Elems a 1 encFld ps)) (hps:ps=os.map (fun o=>(b,o))) (ho:∀ o∈os,o < cs.length) (hs:Small ps.length) :
  Calls Tryz.prog 114 #[.pointer (some ⟨r,0,none⟩),.slice a ps.length cap] w (TurnsE 33 (numsE os.length ws) (fun _x (_:Unit)=>.tuple #[]) (fun x _=>SepR [Rdr 161 r x.2,Box b (setAll cs os x.1) t]) B w):=by
 have hlen:ps.length=os.length:=by rw [hps,List.length_map]
 refine calls_of_gkB hB hA (vs:=[_,_]) Tryz.func114 rfl rfl (Nat.le_of_ble_eq_true rfl) ?_
 refine gk_split ?_
 refine gk_seq ?_
 refine gk_region ?_
 refine gk_y rfl rfl (y_move rfl) ?_
 refine gk_y rfl rfl (y_lenS (Tryz.underlying206) rfl) ?_
 refine gk_y rfl rfl (y_move rfl) ?_
 refine gk_nil (gk_sub (T':=[(0,_),(7,_),(8,_),(9,_)]) ⟨rfl,rfl,rfl,rfl,trivial⟩ ?_)
 refine gk_block ?_
 refine gk_loop (X:=Int×List ByteArray×List Value) (fun⟨i,us,ds⟩=>[(0,.pointer (some ⟨r,0,none⟩)),(7,.slice a ps.length cap),(8,.int .i64 (ps.length:Int)),(9,.int .i64 i)]) (fun⟨i,us,ds⟩=>[Rdr 161 r us,Box b ds t]) (fun⟨i,us,ds⟩=>(0≤i∧i≤ps.length∧ds.length=cs.length∧putE (os.drop i.toNat) ds us=putE os cs ws)) (fun⟨i,us,ds⟩=>(ps.length - i).toNat) (0,ws,cs) ⟨rfl,rfl,rfl,rfl,trivial⟩ rfl ?_ ?_
 ·exact⟨by omega,by omega,rfl,rfl⟩
 ·rintro ⟨i,us,ds⟩ hI
  obtain⟨g0,g1,g2,g3⟩:=hI
  refine gk_seq ?_
  refine gk_region ?_
  refine gk_y rfl rfl (y_lss rfl rfl) ?_
  refine gk_nil (gk_sub (T':=[(0,_),(7,_),(8,_),(9,_),(10,_)]) ⟨rfl,rfl,rfl,rfl,rfl,trivial⟩ ?_)
  refine gk_seq ?_
  refine gk_cond rfl (fun hc10=>?_) (fun hc10=>?_)
  ·have hc10:=of_decide_eq_true hc10
   refine gk_skip ?_
   refine gk_seq ?_
   refine gk_block ?_
   refine gk_seq ?_
   refine gk_region ?_
   refine gk_y rfl rfl (y_indexE se206 rfl rfl (fun _ hw=>(Rd.has hl hw)) (by omega) (by omega)) ?_
   refine gk_y rfl rfl (y_loadE1 tf186 rfl (fun _ hw=>(Rd.has hl hw)) (by omega) (by omega) rfl) ?_
   refine gk_y rfl rfl (y_assign rfl) ?_
   refine gk_nil (gk_sub (T':=[(0,_),(5,_),(7,_),(8,_),(9,_)]) ⟨rfl,rfl,rfl,rfl,rfl,trivial⟩ ?_)
   have hg5:ps.getD i.toNat default=(b,os.getD i.toNat 0):=by rw [hps]; exact fld_get g0 (by omega)
   refine gk_sub (T':=[(0,_),(5,.pointer (some ⟨b,os.getD i.toNat 0,none⟩)),(7,_),(8,_),(9,_)]) ⟨rfl,(by show some (Value.pointer (some ⟨(ps.getD i.toNat default).1,(ps.getD i.toNat default).2,none⟩))=_; rw [hg5]),rfl,rfl,rfl,trivial⟩ ?_
   refine gk_seq ?_
   refine gk_region ?_
   refine gk_y rfl rfl (y_move rfl) ?_
   refine gk_callE (res:=nextE us) 0 en90 rfl rfl rfl (fun w B hF=>next_c r us w B (fun k hk=>(hF.own k hk).2) hF.A) (fun k hk14=>?_) (fun x14 m14 hx14=>?_)
   ·
    exact gk_thrownE (put_err (by rw [←g3,put_step g0 (by omega),putE_cons,numE,hk14]; rfl))
   refine gk_y rfl rfl (y_assign rfl) ?_
   refine gk_nil (gk_sub (T':=[(0,_),(5,_),(6,_),(7,_),(8,_),(9,_)]) ⟨rfl,rfl,rfl,rfl,rfl,rfl,trivial⟩ ?_)
   refine gk_seq ?_
   refine gk_seq ?_
   refine gk_region ?_
   refine gk_y rfl rfl (y_move rfl) ?_
   refine gk_y rfl rfl (y_call en133 rfl (fun w hw=>isnumber_c _ w)) ?_
   refine gk_y rfl rfl (y_not rfl) ?_
   refine gk_nil (gk_sub (T':=[(0,_),(5,_),(6,_),(7,_),(8,_),(9,_),(17,_)]) ⟨rfl,rfl,rfl,rfl,rfl,rfl,rfl,trivial⟩ ?_)
   refine gk_cond rfl (fun hc17=>?_) (fun hc17=>?_)
   ·have h17:¬ numW x14.1=true:=by simpa using hc17
    refine gk_region ?_
    refine gk_callP en91 rfl (fun w hw=>fail_c _ w) ?_
    exact gk_thrownE (put_err (by rw [←g3,put_step g0 (by omega),putE_cons,numE,hx14,ok_bind,if_neg h17]; rfl))
   ·have h17:numW x14.1=true:=by simpa using hc17
    refine gk_skip ?_
    refine gk_region ?_
    refine gk_y rfl rfl (y_move rfl) ?_
    refine gk_y rfl rfl (y_move rfl) ?_
    refine gk_y rfl rfl (y_call en134 rfl (fun w hw=>atoi_c _ w (by assumption))) ?_
    refine gk_y rfl rfl (y_move rfl) ?_
    refine gk_y rfl rfl (y_extract rfl rfl) ?_
    refine gk_y rfl rfl (y_extract rfl rfl) ?_
    refine gk_y rfl rfl (y_nilCheck rfl) ?_
    refine gk_storeN 1 tf3 rfl rfl rfl rfl rfl (by rw [g2]; exact ho _ (getD_mem0 (by omega))) ?_
    refine gk_nil (gk_sub (T':=[(0,_),(7,_),(8,_),(9,_)]) ⟨rfl,rfl,rfl,rfl,trivial⟩ ?_)
    refine gk_region ?_
    refine gk_y rfl rfl (y_addI rfl rfl (by omega) (by omega)) ?_
    refine gk_y rfl rfl (y_move rfl) ?_
    refine gk_nil (gk_sub (T':=[(0,_),(7,_),(8,_),(9,_)]) ⟨rfl,rfl,rfl,rfl,trivial⟩ ?_)
    exact gk_next (i+1,x14.2,_) ⟨rfl,rfl,rfl,rfl,trivial⟩ rfl ⟨by omega,by omega,by rw [List.length_set,g2],by rw [←g3,put_step g0 (by omega),putE_cons,numE,hx14,ok_bind,if_pos h17]; rfl⟩ (by simp only []; omega)
  ·have hc10:=of_decide_eq_false hc10
   refine gk_exit rfl ?_
   obtain⟨l,hl1,hl2⟩:=put_ok (os:=os) (cs:=cs) (ws:=ws) (cs':=ds) (ws':=us) (by rw [←g3,List.drop_of_length_le (by omega),putE_nil])
   refine gk_pack 2 ?_
   exact gk_turnsE (l,us) () 0 (rv_none rfl) rfl (by rw [hl2]; rfl) hl1
set_option maxRecDepth 100000 in
set_option maxHeartbeats 1000000 in
theorem one_c (r:Nat) (ws:List ByteArray) (b:Nat) (cs:List Value) (t:TypeId) (os:List Nat) (ps:List (Nat×Nat)) (a:Option Addr) (cap:Nat) (u:ByteArray) (br:Nat) (w:World) (B:Nat→Prop) (hB:∀ k,B k→k < w.heap.size) (hA:(SepR [Rdr 161 r ws,Box b cs t]).A B w) (hl:Rd (fun k=>k < w.heap.size∧¬ B k) w (Elems a 1 encFld ps)) (hps:ps=os.map (fun o=>(b,o))) (ho:∀ o∈os,o < cs.length) (hs:Small ps.length) (hb:Rd (fun k=>k < w.heap.size∧¬ B k) w (Box br [.pointer (some ⟨r,0,none⟩)] 158)) :
  Calls Tryz.prog 131 #[.string u,.slice a ps.length cap,.pointer (some ⟨br,0,none⟩)] w (TurnsE 33 (oneE u os.length ws) (fun _x (_:Unit)=>.tuple #[]) (fun x _=>SepR [Rdr 161 r x.2,Box b (setAll cs os x.1) t]) B w):=by
 refine calls_of_gkB hB hA (vs:=[_,_,_]) Tryz.func131 rfl rfl (Nat.le_of_ble_eq_true rfl) ?_
 refine gk_split ?_
 refine gk_seq ?_
 refine gk_region ?_
 refine gk_y rfl rfl (y_load1 tf158 rfl (fun _ hw=>has_box_cell (Rd.has hb hw) rfl)) ?_
 refine gk_y rfl rfl (y_move rfl) ?_
 refine gk_callE (res:=sayE u ws) 0 en132 rfl rfl rfl (fun w B hF=>say_c r ws u w B (fun k hk=>(hF.own k hk).2) hF.A) (fun k hk7=>?_) (fun x7 m7 hx7=>?_)
 ·
  exact gk_thrownE (by rw [oneE,hk7]; first | done | rfl)
 refine gk_nil (gk_sub (T':=[(1,_),(2,_)]) ⟨rfl,rfl,trivial⟩ ?_)
 refine gk_region ?_
 refine gk_y rfl rfl (y_load1 tf158 rfl (fun _ hw=>has_box_cell (Rd.has hb hw) rfl)) ?_
 refine gk_y rfl rfl (y_move rfl) ?_
 refine gk_front 1 rfl ?_
 refine gk_front 1 rfl ?_
 refine gk_pack 2 ?_
 refine gk_callE 0 en114 rfl rfl rfl (fun w B hF=>numbers_c r x7.2 b cs t os ps _ _ w B (fun k hk=>(hF.own k hk).2) hF.A (hF.rd hl) hps ho hs) (fun k hk10=>?_) (fun x10 m10 hx10=>?_)
 ·
  exact gk_thrownE (by rw [oneE,hx7,ok_bind,hk10]; first | done | rfl)
 refine gk_nil (gk_sub (T':=[]) trivial ?_)
 exact gk_turnsE x10 () 0 (rv_none rfl) rfl rfl (by rw [oneE,hx7,ok_bind,hx10])
end Go.Proofs.YtdcfcfhmkfkgmaaGreatDoor
namespace Go.Proofs.YtdcfcfhmkfkgmaaGreatDoor
open Go.K Go.Stn Go.Pln Go.RowKit
theorem sa137:SA Tryz.prog 137 9 4 1:=⟨Tryz.underlying137,by kernel_rfl⟩
theorem af35:AF Tryz.prog 35 3 1 8 [.int IntKind.i64 0]:=⟨Tryz.underlying35,by kernel_rfl,rfl⟩
theorem en113:En Tryz.prog 113:=en_of Tryz.func113 (by kernel_rfl) (by kernel_rfl)
theorem en116:En Tryz.prog 116:=en_of Tryz.func116 (by kernel_rfl) (by kernel_rfl)
theorem en131:En Tryz.prog 131:=en_of Tryz.func131 (by kernel_rfl) (by kernel_rfl)
theorem bd41_0s (x0:ByteArray) (w:World):(Instr.build 41 #[(0,.string x0)]).run Tryz.prog w=.ok (.agg #[.string x0,.int IntKind.i64 0,.int IntKind.i64 0,.int IntKind.i64 0,.int IntKind.i64 0,.slice none 0 0,.int IntKind.i64 0,.int IntKind.i64 0,.int IntKind.i64 0,.int IntKind.i64 0,.int IntKind.i64 0,.int IntKind.i64 0,.int IntKind.i64 0,.int IntKind.u8 0,.int IntKind.i64 0,.int IntKind.i64 0,.int IntKind.i64 0,.int IntKind.i64 0,.int IntKind.i64 0,.int IntKind.i64 0]) w:=by kernel_rfl
theorem bs35_1 (x0_0:Int) (w:World):(Instr.buildSlice 35 1 #[(0,.int .i64 x0_0)]).run Tryz.prog w=.ok (.slice (some ⟨w.heap.size,0,none⟩) 1 1) (w.alloc (.cells (([x0_0]:List (Int)).flatMap Go.Stn.encI).toArray 3)):=by kernel_rfl
theorem bs206_1 (x0:Nat×Nat) (w:World):(Instr.buildSlice 206 1 #[(0,.pointer (some ⟨x0.1,x0.2,none⟩))]).run Tryz.prog w=.ok (.slice (some ⟨w.heap.size,0,none⟩) 1 1) (w.alloc (.cells (([x0]:List (Nat×Nat)).flatMap encFld).toArray 186)):=by kernel_rfl
theorem bs206_2 (x0:Nat×Nat) (x1:Nat×Nat) (w:World):(Instr.buildSlice 206 2 #[(0,.pointer (some ⟨x0.1,x0.2,none⟩)),(1,.pointer (some ⟨x1.1,x1.2,none⟩))]).run Tryz.prog w=.ok (.slice (some ⟨w.heap.size,0,none⟩) 2 2) (w.alloc (.cells (([x0,x1]:List (Nat×Nat)).flatMap encFld).toArray 186)):=by kernel_rfl
theorem bs206_3 (x0:Nat×Nat) (x1:Nat×Nat) (x2:Nat×Nat) (w:World):(Instr.buildSlice 206 3 #[(0,.pointer (some ⟨x0.1,x0.2,none⟩)),(1,.pointer (some ⟨x1.1,x1.2,none⟩)),(2,.pointer (some ⟨x2.1,x2.2,none⟩))]).run Tryz.prog w=.ok (.slice (some ⟨w.heap.size,0,none⟩) 3 3) (w.alloc (.cells (([x0,x1,x2]:List (Nat×Nat)).flatMap encFld).toArray 186)):=by kernel_rfl
set_option maxRecDepth 100000 in
set_option maxHeartbeats 8000000 in
theorem sheet_c (r:Nat) (ws:List ByteArray) (w:World) (B:Nat→Prop) (hB:∀ k,B k→k < w.heap.size) (hA:(Rdr 161 r ws).A B w) (hws:ws.length≤100000) (hcp:Rd (fun k=>k < w.heap.size∧¬ B k) w (Elems (some ⟨0,0,none⟩) 1 encS copesW)) :
  Calls Tryz.prog 110 #[.pointer (some ⟨r,0,none⟩)] w (TurnsE 33 (sheetE ws) (fun x (m:Option Addr×Nat)=>.agg (encSht ⟨x.1,m.1,m.2⟩).toArray) (fun x m=>SepR [Rdr 161 r x.2,Row m.1 1 m.2 3 Go.Stn.encI x.1.heights]) B w):=by
 refine calls_of_gkB hB hA (vs:=[_]) Tryz.func110 rfl rfl (Nat.le_of_ble_eq_true rfl) ?_
 refine gk_seq ?_
 refine gk_region ?_
 refine gk_yx rfl rfl (yx_box (vs:=[_]) rfl rfl) fun b1=>?_
 refine gk_yx rfl rfl (yx_alloc tf41 (zs:=[_,_,_,_,_,_,_,_,_,_,_,_,_,_,_,_,_,_,_,_]) rfl) fun b2=>?_
 refine gk_nil (gk_sub (T':=[(1,_),(2,_)]) ⟨rfl,rfl,trivial⟩ ?_)
 refine gk_seq ?_
 refine gk_region ?_
 refine gk_y rfl rfl (y_loadB1 1 tf158 rfl rfl rfl) ?_
 refine gk_callE (res:=nameE ws) 2 en113 rfl rfl rfl (fun w B hF=>name_c r ws w B (fun k hk=>(hF.own k hk).2) hF.A) (fun k hk7=>?_) (fun x7 m7 hx7=>?_)
 ·
  exact gk_thrownE (by rw [sheetE,hk7]; first | done | rfl)
 refine gk_y rfl rfl (y_buildL rfl (bd41_0s _)) ?_
 refine gk_yx rfl rfl (yx_alloc tf41 (zs:=[_,_,_,_,_,_,_,_,_,_,_,_,_,_,_,_,_,_,_,_]) rfl) fun b3=>?_
 refine gk_storeAll 0 tf41 rfl rfl (vs:=[_,_,_,_,_,_,_,_,_,_,_,_,_,_,_,_,_,_,_,_]) rfl rfl rfl rfl rfl ?_
 refine gk_nil (gk_sub (T':=[(1,_),(2,_),(3,_)]) ⟨rfl,rfl,rfl,trivial⟩ ?_)
 refine gk_seq ?_
 refine gk_region ?_
 refine gk_y rfl rfl (y_makeFunc («as»:=[]) (bs:=[_]) rfl rfl) ?_
 refine gk_y rfl rfl (y_assign rfl) ?_
 refine gk_nil (gk_sub (T':=[(1,_),(2,_),(3,_),(4,_)]) ⟨rfl,rfl,rfl,rfl,trivial⟩ ?_)
 refine gk_seq ?_
 refine gk_region ?_
 refine gk_y rfl rfl (y_move rfl) ?_
 refine gk_y rfl rfl (y_fieldAddr fo41_1 rfl) ?_
 refine gk_yx rfl rfl (yx_buildSlice rfl (bs206_1 (b3,1)) encFld_ok rfl) fun b12=>?_
 refine gk_front 1 rfl ?_
 refine gk_front 4 rfl ?_
 refine gk_pack 2 ?_
 refine gk_callVE (res:=oneE (⟨#[98,97,115,101]⟩:ByteArray) 1 x7.2) (fs:=[]) (cap:=[_]) 0 en131 rfl rfl rfl rfl (fun w B hF=>one_c r x7.2 b3 [.string x7.1,.int .i64 0,.int .i64 0,.int .i64 0,.int .i64 0,.slice none 0 0,.int .i64 0,.int .i64 0,.int .i64 0,.int .i64 0,.int .i64 0,.int .i64 0,.int .i64 0,.int .u8 0,.int .i64 0,.int .i64 0,.int .i64 0,.int .i64 0,.int .i64 0,.int .i64 0] 41 [1] [(b3,1)] _ _ (⟨#[98,97,115,101]⟩:ByteArray) b1 w B (fun k hk=>(hF.own k hk).2) hF.A (rd_row encFld_ok (hF.other 0 rfl)) rfl (by intro o ho; simp at ho; simp; omega) (by simp [Small]) (hF.other 2 rfl)) (fun k hk13=>?_) (fun x13 m13 hx13=>?_)
 ·
  exact gk_thrownE (by rw [sheetE,hx7,ok_bind,hk13]; first | done | rfl)
 refine gk_split ?_
 refine gk_conv (R':=Box b3 [.string x7.1,.int .i64 ((x13.1).getD 0 0),.int .i64 0,.int .i64 0,.int .i64 0,.slice none 0 0,.int .i64 0,.int .i64 0,.int .i64 0,.int .i64 0,.int .i64 0,.int .i64 0,.int .i64 0,.int .u8 0,.int .i64 0,.int .i64 0,.int .i64 0,.int .i64 0,.int .i64 0,.int .i64 0] 41) 1 rfl (fun B w hA=>hA) ?_
 refine gk_dropAt 2 rfl ?_
 refine gk_nil (gk_sub (T':=[(1,_),(2,_),(3,_),(4,_)]) ⟨rfl,rfl,rfl,rfl,trivial⟩ ?_)
 refine gk_seq ?_
 refine gk_region ?_
 refine gk_y rfl rfl (y_move rfl) ?_
 refine gk_y rfl rfl (y_fieldAddr fo41_2 rfl) ?_
 refine gk_yx rfl rfl (yx_buildSlice rfl (bs206_1 (b3,2)) encFld_ok rfl) fun b16=>?_
 refine gk_front 2 rfl ?_
 refine gk_front 2 rfl ?_
 refine gk_pack 2 ?_
 refine gk_callVE (res:=oneE (⟨#[98,97,116,116,101,114]⟩:ByteArray) 1 x13.2) (fs:=[]) (cap:=[_]) 0 en131 rfl rfl rfl rfl (fun w B hF=>one_c r x13.2 b3 [.string x7.1,.int .i64 ((x13.1).getD 0 0),.int .i64 0,.int .i64 0,.int .i64 0,.slice none 0 0,.int .i64 0,.int .i64 0,.int .i64 0,.int .i64 0,.int .i64 0,.int .i64 0,.int .i64 0,.int .u8 0,.int .i64 0,.int .i64 0,.int .i64 0,.int .i64 0,.int .i64 0,.int .i64 0] 41 [2] [(b3,2)] _ _ (⟨#[98,97,116,116,101,114]⟩:ByteArray) b1 w B (fun k hk=>(hF.own k hk).2) hF.A (rd_row encFld_ok (hF.other 0 rfl)) rfl (by intro o ho; simp at ho; simp; omega) (by simp [Small]) (hF.other 2 rfl)) (fun k hk17=>?_) (fun x17 m17 hx17=>?_)
 ·
  exact gk_thrownE (by rw [sheetE,hx7,ok_bind,hx13,ok_bind,hk17]; first | done | rfl)
 refine gk_split ?_
 refine gk_conv (R':=Box b3 [.string x7.1,.int .i64 ((x13.1).getD 0 0),.int .i64 ((x17.1).getD 0 0),.int .i64 0,.int .i64 0,.slice none 0 0,.int .i64 0,.int .i64 0,.int .i64 0,.int .i64 0,.int .i64 0,.int .i64 0,.int .i64 0,.int .u8 0,.int .i64 0,.int .i64 0,.int .i64 0,.int .i64 0,.int .i64 0,.int .i64 0] 41) 1 rfl (fun B w hA=>hA) ?_
 refine gk_dropAt 2 rfl ?_
 refine gk_nil (gk_sub (T':=[(1,_),(2,_),(3,_),(4,_)]) ⟨rfl,rfl,rfl,rfl,trivial⟩ ?_)
 refine gk_seq ?_
 refine gk_region ?_
 refine gk_y rfl rfl (y_move rfl) ?_
 refine gk_y rfl rfl (y_fieldAddr fo41_3 rfl) ?_
 refine gk_yx rfl rfl (yx_buildSlice rfl (bs206_1 (b3,3)) encFld_ok rfl) fun b20=>?_
 refine gk_front 2 rfl ?_
 refine gk_front 2 rfl ?_
 refine gk_pack 2 ?_
 refine gk_callVE (res:=oneE (⟨#[104,101,105,103,104,116]⟩:ByteArray) 1 x17.2) (fs:=[]) (cap:=[_]) 0 en131 rfl rfl rfl rfl (fun w B hF=>one_c r x17.2 b3 [.string x7.1,.int .i64 ((x13.1).getD 0 0),.int .i64 ((x17.1).getD 0 0),.int .i64 0,.int .i64 0,.slice none 0 0,.int .i64 0,.int .i64 0,.int .i64 0,.int .i64 0,.int .i64 0,.int .i64 0,.int .i64 0,.int .u8 0,.int .i64 0,.int .i64 0,.int .i64 0,.int .i64 0,.int .i64 0,.int .i64 0] 41 [3] [(b3,3)] _ _ (⟨#[104,101,105,103,104,116]⟩:ByteArray) b1 w B (fun k hk=>(hF.own k hk).2) hF.A (rd_row encFld_ok (hF.other 0 rfl)) rfl (by intro o ho; simp at ho; simp; omega) (by simp [Small]) (hF.other 2 rfl)) (fun k hk21=>?_) (fun x21 m21 hx21=>?_)
 ·
  exact gk_thrownE (by rw [sheetE,hx7,ok_bind,hx13,ok_bind,hx17,ok_bind,hk21]; first | done | rfl)
 refine gk_split ?_
 refine gk_conv (R':=Box b3 [.string x7.1,.int .i64 ((x13.1).getD 0 0),.int .i64 ((x17.1).getD 0 0),.int .i64 ((x21.1).getD 0 0),.int .i64 0,.slice none 0 0,.int .i64 0,.int .i64 0,.int .i64 0,.int .i64 0,.int .i64 0,.int .i64 0,.int .i64 0,.int .u8 0,.int .i64 0,.int .i64 0,.int .i64 0,.int .i64 0,.int .i64 0,.int .i64 0] 41) 1 rfl (fun B w hA=>hA) ?_
 refine gk_dropAt 2 rfl ?_
 refine gk_nil (gk_sub (T':=[(1,_),(2,_),(3,_),(4,_)]) ⟨rfl,rfl,rfl,rfl,trivial⟩ ?_)
 refine gk_seq ?_
 refine gk_region ?_
 refine gk_y rfl rfl (y_move rfl) ?_
 refine gk_y rfl rfl (y_fieldAddr fo41_4 rfl) ?_
 refine gk_yx rfl rfl (yx_buildSlice rfl (bs206_1 (b3,4)) encFld_ok rfl) fun b24=>?_
 refine gk_front 2 rfl ?_
 refine gk_front 2 rfl ?_
 refine gk_pack 2 ?_
 refine gk_callVE (res:=oneE (⟨#[115,107,105,110]⟩:ByteArray) 1 x21.2) (fs:=[]) (cap:=[_]) 0 en131 rfl rfl rfl rfl (fun w B hF=>one_c r x21.2 b3 [.string x7.1,.int .i64 ((x13.1).getD 0 0),.int .i64 ((x17.1).getD 0 0),.int .i64 ((x21.1).getD 0 0),.int .i64 0,.slice none 0 0,.int .i64 0,.int .i64 0,.int .i64 0,.int .i64 0,.int .i64 0,.int .i64 0,.int .i64 0,.int .u8 0,.int .i64 0,.int .i64 0,.int .i64 0,.int .i64 0,.int .i64 0,.int .i64 0] 41 [4] [(b3,4)] _ _ (⟨#[115,107,105,110]⟩:ByteArray) b1 w B (fun k hk=>(hF.own k hk).2) hF.A (rd_row encFld_ok (hF.other 0 rfl)) rfl (by intro o ho; simp at ho; simp; omega) (by simp [Small]) (hF.other 2 rfl)) (fun k hk25=>?_) (fun x25 m25 hx25=>?_)
 ·
  exact gk_thrownE (by rw [sheetE,hx7,ok_bind,hx13,ok_bind,hx17,ok_bind,hx21,ok_bind,hk25]; first | done | rfl)
 refine gk_split ?_
 refine gk_conv (R':=Box b3 [.string x7.1,.int .i64 ((x13.1).getD 0 0),.int .i64 ((x17.1).getD 0 0),.int .i64 ((x21.1).getD 0 0),.int .i64 ((x25.1).getD 0 0),.slice none 0 0,.int .i64 0,.int .i64 0,.int .i64 0,.int .i64 0,.int .i64 0,.int .i64 0,.int .i64 0,.int .u8 0,.int .i64 0,.int .i64 0,.int .i64 0,.int .i64 0,.int .i64 0,.int .i64 0] 41) 1 rfl (fun B w hA=>hA) ?_
 refine gk_dropAt 2 rfl ?_
 refine gk_nil (gk_sub (T':=[(1,_),(2,_),(3,_),(4,_)]) ⟨rfl,rfl,rfl,rfl,trivial⟩ ?_)
 refine gk_seq ?_
 refine gk_region ?_
 refine gk_y rfl rfl (y_loadB1 3 tf158 rfl rfl rfl) ?_
 refine gk_callE (res:=sayE (⟨#[104,101,105,103,104,116,115]⟩:ByteArray) x25.2) 0 en132 rfl rfl rfl (fun w B hF=>say_c r x25.2 (⟨#[104,101,105,103,104,116,115]⟩:ByteArray) w B (fun k hk=>(hF.own k hk).2) hF.A) (fun k hk27=>?_) (fun x27 m27 hx27=>?_)
 ·
  exact gk_thrownE (by rw [sheetE,hx7,ok_bind,hx13,ok_bind,hx17,ok_bind,hx21,ok_bind,hx25,ok_bind,hk27]; first | done | rfl)
 refine gk_nil (gk_sub (T':=[(1,_),(2,_),(3,_),(4,_)]) ⟨rfl,rfl,rfl,rfl,trivial⟩ ?_)
 have hlen27:x27.2.length≤ws.length:=by have:=name_len hx7; have:=one_len hx13; have:=one_len hx17; have:=one_len hx21; have:=one_len hx25; have:=say_len hx27; omega
 refine gk_front 3 rfl ?_
 refine gk_front 3 rfl ?_
 refine gk_front 3 rfl ?_
 refine gk_front 3 rfl ?_
 refine gk_seq ?_
 refine gk_block ?_
 refine gk_newNil 3 Go.Stn.encI 1 ?_
 refine gk_loop (X:=List Int×List ByteArray×Option Addr×Nat) (fun⟨acc,us,ha,hc⟩=>[(1,.pointer (some ⟨b1,0,none⟩)),(2,.pointer (some ⟨b2,0,none⟩)),(3,.pointer (some ⟨b3,0,none⟩)),(4,.func (.func 131) #[] #[.pointer (some ⟨b1,0,none⟩)])]) (fun⟨acc,us,ha,hc⟩=>[Row ha 1 hc 3 Go.Stn.encI acc,Rdr 161 r us,Box b3 [.string x7.1,.int .i64 ((x13.1).getD 0 0),.int .i64 ((x17.1).getD 0 0),.int .i64 ((x21.1).getD 0 0),.int .i64 ((x25.1).getD 0 0),.slice ha acc.length hc,.int .i64 0,.int .i64 0,.int .i64 0,.int .i64 0,.int .i64 0,.int .i64 0,.int .i64 0,.int .u8 0,.int .i64 0,.int .i64 0,.int .i64 0,.int .i64 0,.int .i64 0,.int .i64 0] 41,Box b2 [.string ⟨#[]⟩,.int .i64 0,.int .i64 0,.int .i64 0,.int .i64 0,.slice none 0 0,.int .i64 0,.int .i64 0,.int .i64 0,.int .i64 0,.int .i64 0,.int .i64 0,.int .i64 0,.int .u8 0,.int .i64 0,.int .i64 0,.int .i64 0,.int .i64 0,.int .i64 0,.int .i64 0] 41,Box b1 [.pointer (some ⟨r,0,none⟩)] 158]) (fun⟨acc,us,ha,hc⟩=>(heightsA acc us=heightsA [] x27.2∧acc.length+us.length≤x27.2.length)) (fun⟨acc,us,ha,hc⟩=>us.length) ([],x27.2,none,0) ⟨rfl,rfl,rfl,rfl,trivial⟩ rfl ?_ ?_
 ·exact⟨rfl,by simp⟩
 ·rintro ⟨acc,us,ha,hc⟩ hI
  obtain⟨hI,hal⟩:=hI
  refine gk_front 1 rfl ?_
  refine gk_openRdr fun a1h c1h hc1h=>?_
  refine gk_seq ?_
  refine gk_seq ?_
  refine gk_any 15 (fun _=>mixed) (by kernel_rfl) ?_
  refine ph_y (y_loadB1 5 tf158 rfl rfl rfl) ?_
  refine ph_y (y_nilCheck rfl) ?_
  refine ph_y (y_fieldAddr fo161_0 rfl) ?_
  refine ph_y (y_loadB1 0 tf124 rfl rfl rfl) ?_
  refine ph_y (y_lenS (Tryz.underlying124) rfl) ?_
  refine ph_y (y_gtr rfl rfl) ?_
  refine ph_y (y_move rfl) ?_
  refine ph_gT rfl rfl (fun hgd=>by(try rw [hgd]); (try have hgd2:=of_decide_eq_true hgd); exact(y_loadB1 5 tf158 rfl rfl rfl)) ?_
  refine ph_gT rfl rfl (fun hgd=>by(try rw [hgd]); (try have hgd2:=of_decide_eq_true hgd); exact(y_nilCheck rfl)) ?_
  refine ph_gT rfl rfl (fun hgd=>by(try rw [hgd]); (try have hgd2:=of_decide_eq_true hgd); exact(y_fieldAddr fo161_0 rfl)) ?_
  refine ph_gT rfl rfl (fun hgd=>by(try rw [hgd]); (try have hgd2:=of_decide_eq_true hgd); exact(y_loadB1 0 tf124 rfl rfl rfl)) ?_
  refine ph_gT rfl rfl (fun hgd=>by(try rw [hgd]); (try have hgd2:=of_decide_eq_true hgd); exact(y_indexE se124 rfl rfl (fun _ hw=>(hw.has (p:=1) rfl)) (by omega) (by omega))) ?_
  refine ph_gT rfl rfl (fun hgd=>by(try rw [hgd]); (try have hgd2:=of_decide_eq_true hgd); exact(y_loadE1 tf9 rfl (fun _ hw=>(hw.has (p:=1) rfl)) (by omega) (by omega) rfl)) ?_
  refine ph_gT rfl rfl (fun hgd=>by(try rw [hgd]); (try have hgd2:=of_decide_eq_true hgd); exact(y_strNe rfl rfl)) ?_
  refine ph_y (y_pickAnd rfl rfl rfl) ?_
  refine gk_nil (gk_sub (T':=[(1,_),(2,_),(3,_),(4,_),(42,_)]) ⟨rfl,rfl,rfl,rfl,rfl,trivial⟩ ?_)
  refine gk_front 1 rfl ?_
  refine gk_front 1 rfl ?_
  refine gk_closeRdr hc1h ?_
  refine gk_front 4 rfl ?_
  refine gk_cond rfl (fun hc42=>?_) (fun hc42=>?_)
  ·simp only [Bool.and_eq_true,decide_eq_true_eq] at hc42
   have h0:¬ us.length=0:=by have:=hc42.1; omega
   have hl0:¬ ((us.getD 0 default).toList == wLeast.toList)=true:=by have:=hc42.2; rw [Bool.not_eq_true'] at this; rw [show((us.getD 0 default).toList == wLeast.toList)=false from this]; exact Bool.false_ne_true
   refine gk_skip ?_
   refine gk_block ?_
   refine gk_seq ?_
   refine gk_region ?_
   refine gk_yx rfl rfl (yx_alloc tf3 (zs:=[_]) rfl) fun b5=>?_
   refine gk_nil (gk_sub (T':=[(1,_),(2,_),(3,_),(4,_),(5,_)]) ⟨rfl,rfl,rfl,rfl,rfl,trivial⟩ ?_)
   refine gk_seq ?_
   refine gk_region ?_
   refine gk_y rfl rfl (y_loadB1 1 tf158 rfl rfl rfl) ?_
   refine gk_yx rfl rfl (yx_buildSlice rfl (bs206_1 (b5,0)) encFld_ok rfl) fun b44=>?_
   refine gk_front 1 rfl ?_
   refine gk_front 3 rfl ?_
   refine gk_pack 2 ?_
   refine gk_callE (res:=numsE 1 us) 0 en114 rfl rfl rfl (fun w B hF=>numbers_c r us b5 [.int .i64 0] 3 [0] [(b5,0)] _ _ w B (fun k hk=>(hF.own k hk).2) hF.A (rd_row encFld_ok (hF.other 0 rfl)) rfl (by intro o ho; simp at ho; simp; omega) (by simp [Small])) (fun k hk45=>?_) (fun x45 m45 hx45=>?_)
   ·
    have hh6:heightsA [] x27.2=.error k:=by rw [←hI,heightsA_step h0 hl0,hk45]; rfl
    exact gk_thrownE (by rw [sheetE,hx7,ok_bind,hx13,ok_bind,hx17,ok_bind,hx21,ok_bind,hx25,ok_bind,hx27,ok_bind,hh6]; first | done | rfl)
   refine gk_split ?_
   refine gk_conv (R':=Box b5 [.int .i64 ((x45.1).getD 0 0)] 3) 1 rfl (fun B w hA=>hA) ?_
   refine gk_dropAt 2 rfl ?_
   refine gk_nil (gk_sub (T':=[(1,_),(2,_),(3,_),(4,_),(5,_)]) ⟨rfl,rfl,rfl,rfl,rfl,trivial⟩ ?_)
   refine gk_region ?_
   refine gk_y rfl rfl (y_fieldAddr fo41_5 rfl) ?_
   refine gk_y rfl rfl (y_loadB1 4 tf35 rfl rfl rfl) ?_
   refine gk_y rfl rfl (y_loadB1 1 tf3 rfl rfl rfl) ?_
   refine gk_yx rfl rfl (yx_buildSlice rfl (bs35_1 _) Go.Stn.encI_ok rfl) fun b49=>?_
   refine gk_append (m:=[((x45.1).getD 0 0)]) 4 af35 Go.Stn.encI_ok rfl rfl rfl rfl (fun _ hw=>(has_row Go.Stn.encI_ok (hw.has (p:=0) rfl))) (by first | omega | (simp only [List.length_cons,List.length_nil]; omega)) (by first | (unfold maxLen; omega) | (simp only [List.length_cons,List.length_nil,maxLen]; omega)) fun a50 c50=>?_
   refine gk_y rfl rfl (y_fieldAddr fo41_5 rfl) ?_
   refine gk_storeV 5 tf35 rfl rfl (vs:=[_]) rfl rfl rfl rfl rfl ?_
   refine gk_nil (gk_sub (T':=[(1,_),(2,_),(3,_),(4,_)]) ⟨rfl,rfl,rfl,rfl,trivial⟩ ?_)
   refine gk_dropAt 0 rfl ?_
   refine gk_dropAt 1 rfl ?_
   refine gk_front 1 rfl ?_
   refine gk_front 4 rfl ?_
   refine gk_front 4 rfl ?_
   refine gk_front 3 rfl ?_
   refine gk_front 4 rfl ?_
   exact gk_next (acc++[(x45.1).getD 0 0],x45.2,a50,c50) ⟨rfl,rfl,rfl,rfl,trivial⟩ rfl ⟨by rw [←hI,heightsA_step h0 hl0,hx45]; rfl,by have:=nums1_len hx45; simp only [List.length_append,List.length_cons,List.length_nil]; omega⟩ (by have:=nums1_len hx45; simp only []; omega)
  ·simp only [Bool.and_eq_false_iff,decide_eq_false_iff_not] at hc42
   have hh6:heightsA [] x27.2=.ok (acc,us):=by rw [←hI]; exact heightsA_end (by rcases hc42 with h | h; exact .inl (by omega); exact .inr (of_nf h))
   refine gk_exit rfl ?_
   refine gk_seq ?_
   refine gk_region ?_
   refine gk_y rfl rfl (y_move rfl) ?_
   refine gk_y rfl rfl (y_fieldAddr fo41_6 rfl) ?_
   refine gk_yx rfl rfl (yx_buildSlice rfl (bs206_1 (b3,6)) encFld_ok rfl) fun b54=>?_
   refine gk_front 4 rfl ?_
   refine gk_front 3 rfl ?_
   refine gk_pack 2 ?_
   refine gk_callVE (res:=oneE (⟨#[108,101,97,115,116]⟩:ByteArray) 1 us) (fs:=[]) (cap:=[_]) 0 en131 rfl rfl rfl rfl (fun w B hF=>one_c r us b3 [.string x7.1,.int .i64 ((x13.1).getD 0 0),.int .i64 ((x17.1).getD 0 0),.int .i64 ((x21.1).getD 0 0),.int .i64 ((x25.1).getD 0 0),.slice ha acc.length hc,.int .i64 0,.int .i64 0,.int .i64 0,.int .i64 0,.int .i64 0,.int .i64 0,.int .i64 0,.int .u8 0,.int .i64 0,.int .i64 0,.int .i64 0,.int .i64 0,.int .i64 0,.int .i64 0] 41 [6] [(b3,6)] _ _ (⟨#[108,101,97,115,116]⟩:ByteArray) b1 w B (fun k hk=>(hF.own k hk).2) hF.A (rd_row encFld_ok (hF.other 0 rfl)) rfl (by intro o ho; simp at ho; simp; omega) (by simp [Small]) (hF.other 1 rfl)) (fun k hk55=>?_) (fun x55 m55 hx55=>?_)
   ·
    exact gk_thrownE (by rw [sheetE,hx7,ok_bind,hx13,ok_bind,hx17,ok_bind,hx21,ok_bind,hx25,ok_bind,hx27,ok_bind,hh6,ok_bind,hk55]; first | done | rfl)
   refine gk_split ?_
   refine gk_conv (R':=Box b3 [.string x7.1,.int .i64 ((x13.1).getD 0 0),.int .i64 ((x17.1).getD 0 0),.int .i64 ((x21.1).getD 0 0),.int .i64 ((x25.1).getD 0 0),.slice ha acc.length hc,.int .i64 ((x55.1).getD 0 0),.int .i64 0,.int .i64 0,.int .i64 0,.int .i64 0,.int .i64 0,.int .i64 0,.int .u8 0,.int .i64 0,.int .i64 0,.int .i64 0,.int .i64 0,.int .i64 0,.int .i64 0] 41) 1 rfl (fun B w hA=>hA) ?_
   refine gk_dropAt 2 rfl ?_
   refine gk_nil (gk_sub (T':=[(1,_),(2,_),(3,_),(4,_)]) ⟨rfl,rfl,rfl,rfl,trivial⟩ ?_)
   refine gk_seq ?_
   refine gk_region ?_
   refine gk_y rfl rfl (y_move rfl) ?_
   refine gk_y rfl rfl (y_fieldAddr fo41_7 rfl) ?_
   refine gk_yx rfl rfl (yx_buildSlice rfl (bs206_1 (b3,7)) encFld_ok rfl) fun b58=>?_
   refine gk_front 2 rfl ?_
   refine gk_front 2 rfl ?_
   refine gk_pack 2 ?_
   refine gk_callVE (res:=oneE (⟨#[108,97,112]⟩:ByteArray) 1 x55.2) (fs:=[]) (cap:=[_]) 0 en131 rfl rfl rfl rfl (fun w B hF=>one_c r x55.2 b3 [.string x7.1,.int .i64 ((x13.1).getD 0 0),.int .i64 ((x17.1).getD 0 0),.int .i64 ((x21.1).getD 0 0),.int .i64 ((x25.1).getD 0 0),.slice ha acc.length hc,.int .i64 ((x55.1).getD 0 0),.int .i64 0,.int .i64 0,.int .i64 0,.int .i64 0,.int .i64 0,.int .i64 0,.int .u8 0,.int .i64 0,.int .i64 0,.int .i64 0,.int .i64 0,.int .i64 0,.int .i64 0] 41 [7] [(b3,7)] _ _ (⟨#[108,97,112]⟩:ByteArray) b1 w B (fun k hk=>(hF.own k hk).2) hF.A (rd_row encFld_ok (hF.other 0 rfl)) rfl (by intro o ho; simp at ho; simp; omega) (by simp [Small]) (hF.other 1 rfl)) (fun k hk59=>?_) (fun x59 m59 hx59=>?_)
   ·
    exact gk_thrownE (by rw [sheetE,hx7,ok_bind,hx13,ok_bind,hx17,ok_bind,hx21,ok_bind,hx25,ok_bind,hx27,ok_bind,hh6,ok_bind,hx55,ok_bind,hk59]; first | done | rfl)
   refine gk_split ?_
   refine gk_conv (R':=Box b3 [.string x7.1,.int .i64 ((x13.1).getD 0 0),.int .i64 ((x17.1).getD 0 0),.int .i64 ((x21.1).getD 0 0),.int .i64 ((x25.1).getD 0 0),.slice ha acc.length hc,.int .i64 ((x55.1).getD 0 0),.int .i64 ((x59.1).getD 0 0),.int .i64 0,.int .i64 0,.int .i64 0,.int .i64 0,.int .i64 0,.int .u8 0,.int .i64 0,.int .i64 0,.int .i64 0,.int .i64 0,.int .i64 0,.int .i64 0] 41) 1 rfl (fun B w hA=>hA) ?_
   refine gk_dropAt 2 rfl ?_
   refine gk_nil (gk_sub (T':=[(1,_),(2,_),(3,_),(4,_)]) ⟨rfl,rfl,rfl,rfl,trivial⟩ ?_)
   refine gk_seq ?_
   refine gk_region ?_
   refine gk_y rfl rfl (y_move rfl) ?_
   refine gk_y rfl rfl (y_fieldAddr fo41_8 rfl) ?_
   refine gk_yx rfl rfl (yx_buildSlice rfl (bs206_1 (b3,8)) encFld_ok rfl) fun b62=>?_
   refine gk_front 2 rfl ?_
   refine gk_front 2 rfl ?_
   refine gk_pack 2 ?_
   refine gk_callVE (res:=oneE (⟨#[114,117,110]⟩:ByteArray) 1 x59.2) (fs:=[]) (cap:=[_]) 0 en131 rfl rfl rfl rfl (fun w B hF=>one_c r x59.2 b3 [.string x7.1,.int .i64 ((x13.1).getD 0 0),.int .i64 ((x17.1).getD 0 0),.int .i64 ((x21.1).getD 0 0),.int .i64 ((x25.1).getD 0 0),.slice ha acc.length hc,.int .i64 ((x55.1).getD 0 0),.int .i64 ((x59.1).getD 0 0),.int .i64 0,.int .i64 0,.int .i64 0,.int .i64 0,.int .i64 0,.int .u8 0,.int .i64 0,.int .i64 0,.int .i64 0,.int .i64 0,.int .i64 0,.int .i64 0] 41 [8] [(b3,8)] _ _ (⟨#[114,117,110]⟩:ByteArray) b1 w B (fun k hk=>(hF.own k hk).2) hF.A (rd_row encFld_ok (hF.other 0 rfl)) rfl (by intro o ho; simp at ho; simp; omega) (by simp [Small]) (hF.other 1 rfl)) (fun k hk63=>?_) (fun x63 m63 hx63=>?_)
   ·
    exact gk_thrownE (by rw [sheetE,hx7,ok_bind,hx13,ok_bind,hx17,ok_bind,hx21,ok_bind,hx25,ok_bind,hx27,ok_bind,hh6,ok_bind,hx55,ok_bind,hx59,ok_bind,hk63]; first | done | rfl)
   refine gk_split ?_
   refine gk_conv (R':=Box b3 [.string x7.1,.int .i64 ((x13.1).getD 0 0),.int .i64 ((x17.1).getD 0 0),.int .i64 ((x21.1).getD 0 0),.int .i64 ((x25.1).getD 0 0),.slice ha acc.length hc,.int .i64 ((x55.1).getD 0 0),.int .i64 ((x59.1).getD 0 0),.int .i64 ((x63.1).getD 0 0),.int .i64 0,.int .i64 0,.int .i64 0,.int .i64 0,.int .u8 0,.int .i64 0,.int .i64 0,.int .i64 0,.int .i64 0,.int .i64 0,.int .i64 0] 41) 1 rfl (fun B w hA=>hA) ?_
   refine gk_dropAt 2 rfl ?_
   refine gk_nil (gk_sub (T':=[(1,_),(2,_),(3,_),(4,_)]) ⟨rfl,rfl,rfl,rfl,trivial⟩ ?_)
   refine gk_seq ?_
   refine gk_region ?_
   refine gk_y rfl rfl (y_move rfl) ?_
   refine gk_y rfl rfl (y_fieldAddr fo41_9 rfl) ?_
   refine gk_y rfl rfl (y_fieldAddr fo41_10 rfl) ?_
   refine gk_yx rfl rfl (yx_buildSlice rfl (bs206_2 (b3,9) (b3,10)) encFld_ok rfl) fun b67=>?_
   refine gk_front 2 rfl ?_
   refine gk_front 2 rfl ?_
   refine gk_pack 2 ?_
   refine gk_callVE (res:=oneE (⟨#[116,104,114,111,117,103,104]⟩:ByteArray) 2 x63.2) (fs:=[]) (cap:=[_]) 0 en131 rfl rfl rfl rfl (fun w B hF=>one_c r x63.2 b3 [.string x7.1,.int .i64 ((x13.1).getD 0 0),.int .i64 ((x17.1).getD 0 0),.int .i64 ((x21.1).getD 0 0),.int .i64 ((x25.1).getD 0 0),.slice ha acc.length hc,.int .i64 ((x55.1).getD 0 0),.int .i64 ((x59.1).getD 0 0),.int .i64 ((x63.1).getD 0 0),.int .i64 0,.int .i64 0,.int .i64 0,.int .i64 0,.int .u8 0,.int .i64 0,.int .i64 0,.int .i64 0,.int .i64 0,.int .i64 0,.int .i64 0] 41 [9,10] [(b3,9),(b3,10)] _ _ (⟨#[116,104,114,111,117,103,104]⟩:ByteArray) b1 w B (fun k hk=>(hF.own k hk).2) hF.A (rd_row encFld_ok (hF.other 0 rfl)) rfl (by intro o ho; simp at ho; simp; omega) (by simp [Small]) (hF.other 1 rfl)) (fun k hk68=>?_) (fun x68 m68 hx68=>?_)
   ·
    exact gk_thrownE (by rw [sheetE,hx7,ok_bind,hx13,ok_bind,hx17,ok_bind,hx21,ok_bind,hx25,ok_bind,hx27,ok_bind,hh6,ok_bind,hx55,ok_bind,hx59,ok_bind,hx63,ok_bind,hk68]; first | done | rfl)
   refine gk_split ?_
   refine gk_conv (R':=Box b3 [.string x7.1,.int .i64 ((x13.1).getD 0 0),.int .i64 ((x17.1).getD 0 0),.int .i64 ((x21.1).getD 0 0),.int .i64 ((x25.1).getD 0 0),.slice ha acc.length hc,.int .i64 ((x55.1).getD 0 0),.int .i64 ((x59.1).getD 0 0),.int .i64 ((x63.1).getD 0 0),.int .i64 ((x68.1).getD 0 0),.int .i64 (((x68.1.drop 1)).getD 0 0),.int .i64 0,.int .i64 0,.int .u8 0,.int .i64 0,.int .i64 0,.int .i64 0,.int .i64 0,.int .i64 0,.int .i64 0] 41) 1 rfl (fun B w hA=>hA) ?_
   refine gk_dropAt 2 rfl ?_
   refine gk_nil (gk_sub (T':=[(1,_),(2,_),(3,_),(4,_)]) ⟨rfl,rfl,rfl,rfl,trivial⟩ ?_)
   refine gk_seq ?_
   refine gk_region ?_
   refine gk_y rfl rfl (y_move rfl) ?_
   refine gk_y rfl rfl (y_fieldAddr fo41_11 rfl) ?_
   refine gk_y rfl rfl (y_fieldAddr fo41_12 rfl) ?_
   refine gk_yx rfl rfl (yx_buildSlice rfl (bs206_2 (b3,11) (b3,12)) encFld_ok rfl) fun b72=>?_
   refine gk_front 2 rfl ?_
   refine gk_front 2 rfl ?_
   refine gk_pack 2 ?_
   refine gk_callVE (res:=oneE (⟨#[102,111,111,116,105,110,103]⟩:ByteArray) 2 x68.2) (fs:=[]) (cap:=[_]) 0 en131 rfl rfl rfl rfl (fun w B hF=>one_c r x68.2 b3 [.string x7.1,.int .i64 ((x13.1).getD 0 0),.int .i64 ((x17.1).getD 0 0),.int .i64 ((x21.1).getD 0 0),.int .i64 ((x25.1).getD 0 0),.slice ha acc.length hc,.int .i64 ((x55.1).getD 0 0),.int .i64 ((x59.1).getD 0 0),.int .i64 ((x63.1).getD 0 0),.int .i64 ((x68.1).getD 0 0),.int .i64 (((x68.1.drop 1)).getD 0 0),.int .i64 0,.int .i64 0,.int .u8 0,.int .i64 0,.int .i64 0,.int .i64 0,.int .i64 0,.int .i64 0,.int .i64 0] 41 [11,12] [(b3,11),(b3,12)] _ _ (⟨#[102,111,111,116,105,110,103]⟩:ByteArray) b1 w B (fun k hk=>(hF.own k hk).2) hF.A (rd_row encFld_ok (hF.other 0 rfl)) rfl (by intro o ho; simp at ho; simp; omega) (by simp [Small]) (hF.other 1 rfl)) (fun k hk73=>?_) (fun x73 m73 hx73=>?_)
   ·
    exact gk_thrownE (by rw [sheetE,hx7,ok_bind,hx13,ok_bind,hx17,ok_bind,hx21,ok_bind,hx25,ok_bind,hx27,ok_bind,hh6,ok_bind,hx55,ok_bind,hx59,ok_bind,hx63,ok_bind,hx68,ok_bind,hk73]; first | done | rfl)
   refine gk_split ?_
   refine gk_conv (R':=Box b3 [.string x7.1,.int .i64 ((x13.1).getD 0 0),.int .i64 ((x17.1).getD 0 0),.int .i64 ((x21.1).getD 0 0),.int .i64 ((x25.1).getD 0 0),.slice ha acc.length hc,.int .i64 ((x55.1).getD 0 0),.int .i64 ((x59.1).getD 0 0),.int .i64 ((x63.1).getD 0 0),.int .i64 ((x68.1).getD 0 0),.int .i64 (((x68.1.drop 1)).getD 0 0),.int .i64 ((x73.1).getD 0 0),.int .i64 (((x73.1.drop 1)).getD 0 0),.int .u8 0,.int .i64 0,.int .i64 0,.int .i64 0,.int .i64 0,.int .i64 0,.int .i64 0] 41) 1 rfl (fun B w hA=>hA) ?_
   refine gk_dropAt 2 rfl ?_
   refine gk_nil (gk_sub (T':=[(1,_),(2,_),(3,_),(4,_)]) ⟨rfl,rfl,rfl,rfl,trivial⟩ ?_)
   refine gk_seq ?_
   refine gk_region ?_
   refine gk_y rfl rfl (y_loadB1 2 tf158 rfl rfl rfl) ?_
   refine gk_callE (res:=sayE (⟨#[99,111,112,101]⟩:ByteArray) x73.2) 0 en132 rfl rfl rfl (fun w B hF=>say_c r x73.2 (⟨#[99,111,112,101]⟩:ByteArray) w B (fun k hk=>(hF.own k hk).2) hF.A) (fun k hk75=>?_) (fun x75 m75 hx75=>?_)
   ·
    exact gk_thrownE (by rw [sheetE,hx7,ok_bind,hx13,ok_bind,hx17,ok_bind,hx21,ok_bind,hx25,ok_bind,hx27,ok_bind,hh6,ok_bind,hx55,ok_bind,hx59,ok_bind,hx63,ok_bind,hx68,ok_bind,hx73,ok_bind,hk75]; first | done | rfl)
   refine gk_nil (gk_sub (T':=[(1,_),(2,_),(3,_),(4,_)]) ⟨rfl,rfl,rfl,rfl,trivial⟩ ?_)
   refine gk_seq ?_
   refine gk_any 2 (fun _=>mixed) (by kernel_rfl) ?_
   refine ph_y (y_loadB1 2 tf158 rfl rfl rfl) ?_
   refine ph_y (y_sliceArr sa137 rfl) ?_
   refine gk_sub (T':=[(1,_),(2,_),(3,_),(4,_),(76,_),(77,_)]) ⟨rfl,rfl,rfl,rfl,rfl,rfl,trivial⟩ ?_
   refine gk_callE (res:=kindE copesW 0 x75.2) 0 en116 rfl rfl rfl (fun w B hF=>kind_c r x75.2 (some ⟨0,0,none⟩) 4 copesW 0 w B (fun k hk=>(hF.own k hk).2) hF.A (hF.rd hcp) (by decide) (by decide) (by decide)) (fun k hk78=>?_) (fun x78 m78 hx78=>?_)
   ·
    exact gk_thrownE (by rw [sheetE,hx7,ok_bind,hx13,ok_bind,hx17,ok_bind,hx21,ok_bind,hx25,ok_bind,hx27,ok_bind,hh6,ok_bind,hx55,ok_bind,hx59,ok_bind,hx63,ok_bind,hx68,ok_bind,hx73,ok_bind,hx75,ok_bind,hk78]; first | done | rfl)
   refine gk_y rfl rfl (y_fieldAddr fo41_13 rfl) ?_
   refine gk_storeV 1 tf5 rfl rfl (vs:=[_]) rfl rfl rfl rfl rfl ?_
   refine gk_nil (gk_sub (T':=[(1,_),(2,_),(3,_),(4,_)]) ⟨rfl,rfl,rfl,rfl,trivial⟩ ?_)
   refine gk_seq ?_
   refine gk_region ?_
   refine gk_y rfl rfl (y_loadB1 2 tf158 rfl rfl rfl) ?_
   refine gk_y rfl rfl (y_fieldAddr fo41_14 rfl) ?_
   refine gk_y rfl rfl (y_fieldAddr fo41_15 rfl) ?_
   refine gk_y rfl rfl (y_fieldAddr fo41_16 rfl) ?_
   refine gk_yx rfl rfl (yx_buildSlice rfl (bs206_3 (b3,14) (b3,15) (b3,16)) encFld_ok rfl) fun b84=>?_
   refine gk_front 2 rfl ?_
   refine gk_front 2 rfl ?_
   refine gk_pack 2 ?_
   refine gk_callE (res:=numsE 3 x78.2) 0 en114 rfl rfl rfl (fun w B hF=>numbers_c r x78.2 b3 [.string x7.1,.int .i64 ((x13.1).getD 0 0),.int .i64 ((x17.1).getD 0 0),.int .i64 ((x21.1).getD 0 0),.int .i64 ((x25.1).getD 0 0),.slice ha acc.length hc,.int .i64 ((x55.1).getD 0 0),.int .i64 ((x59.1).getD 0 0),.int .i64 ((x63.1).getD 0 0),.int .i64 ((x68.1).getD 0 0),.int .i64 (((x68.1.drop 1)).getD 0 0),.int .i64 ((x73.1).getD 0 0),.int .i64 (((x73.1.drop 1)).getD 0 0),.int .u8 x78.1,.int .i64 0,.int .i64 0,.int .i64 0,.int .i64 0,.int .i64 0,.int .i64 0] 41 [14,15,16] [(b3,14),(b3,15),(b3,16)] _ _ w B (fun k hk=>(hF.own k hk).2) hF.A (rd_row encFld_ok (hF.other 0 rfl)) rfl (by intro o ho; simp at ho; simp; omega) (by simp [Small])) (fun k hk85=>?_) (fun x85 m85 hx85=>?_)
   ·
    exact gk_thrownE (by rw [sheetE,hx7,ok_bind,hx13,ok_bind,hx17,ok_bind,hx21,ok_bind,hx25,ok_bind,hx27,ok_bind,hh6,ok_bind,hx55,ok_bind,hx59,ok_bind,hx63,ok_bind,hx68,ok_bind,hx73,ok_bind,hx75,ok_bind,hx78,ok_bind,hk85]; first | done | rfl)
   refine gk_split ?_
   refine gk_conv (R':=Box b3 [.string x7.1,.int .i64 ((x13.1).getD 0 0),.int .i64 ((x17.1).getD 0 0),.int .i64 ((x21.1).getD 0 0),.int .i64 ((x25.1).getD 0 0),.slice ha acc.length hc,.int .i64 ((x55.1).getD 0 0),.int .i64 ((x59.1).getD 0 0),.int .i64 ((x63.1).getD 0 0),.int .i64 ((x68.1).getD 0 0),.int .i64 (((x68.1.drop 1)).getD 0 0),.int .i64 ((x73.1).getD 0 0),.int .i64 (((x73.1.drop 1)).getD 0 0),.int .u8 x78.1,.int .i64 ((x85.1).getD 0 0),.int .i64 (((x85.1.drop 1)).getD 0 0),.int .i64 ((((x85.1.drop 1).drop 1)).getD 0 0),.int .i64 0,.int .i64 0,.int .i64 0] 41) 1 rfl (fun B w hA=>hA) ?_
   refine gk_dropAt 2 rfl ?_
   refine gk_nil (gk_sub (T':=[(2,_),(3,_),(4,_)]) ⟨rfl,rfl,rfl,trivial⟩ ?_)
   refine gk_seq ?_
   refine gk_region ?_
   refine gk_y rfl rfl (y_move rfl) ?_
   refine gk_y rfl rfl (y_fieldAddr fo41_17 rfl) ?_
   refine gk_y rfl rfl (y_fieldAddr fo41_18 rfl) ?_
   refine gk_yx rfl rfl (yx_buildSlice rfl (bs206_2 (b3,17) (b3,18)) encFld_ok rfl) fun b89=>?_
   refine gk_front 2 rfl ?_
   refine gk_front 2 rfl ?_
   refine gk_pack 2 ?_
   refine gk_callVE (res:=oneE (⟨#[102,114,105,99,116,105,111,110]⟩:ByteArray) 2 x85.2) (fs:=[]) (cap:=[_]) 0 en131 rfl rfl rfl rfl (fun w B hF=>one_c r x85.2 b3 [.string x7.1,.int .i64 ((x13.1).getD 0 0),.int .i64 ((x17.1).getD 0 0),.int .i64 ((x21.1).getD 0 0),.int .i64 ((x25.1).getD 0 0),.slice ha acc.length hc,.int .i64 ((x55.1).getD 0 0),.int .i64 ((x59.1).getD 0 0),.int .i64 ((x63.1).getD 0 0),.int .i64 ((x68.1).getD 0 0),.int .i64 (((x68.1.drop 1)).getD 0 0),.int .i64 ((x73.1).getD 0 0),.int .i64 (((x73.1.drop 1)).getD 0 0),.int .u8 x78.1,.int .i64 ((x85.1).getD 0 0),.int .i64 (((x85.1.drop 1)).getD 0 0),.int .i64 ((((x85.1.drop 1).drop 1)).getD 0 0),.int .i64 0,.int .i64 0,.int .i64 0] 41 [17,18] [(b3,17),(b3,18)] _ _ (⟨#[102,114,105,99,116,105,111,110]⟩:ByteArray) b1 w B (fun k hk=>(hF.own k hk).2) hF.A (rd_row encFld_ok (hF.other 0 rfl)) rfl (by intro o ho; simp at ho; simp; omega) (by simp [Small]) (hF.other 1 rfl)) (fun k hk90=>?_) (fun x90 m90 hx90=>?_)
   ·
    exact gk_thrownE (by rw [sheetE,hx7,ok_bind,hx13,ok_bind,hx17,ok_bind,hx21,ok_bind,hx25,ok_bind,hx27,ok_bind,hh6,ok_bind,hx55,ok_bind,hx59,ok_bind,hx63,ok_bind,hx68,ok_bind,hx73,ok_bind,hx75,ok_bind,hx78,ok_bind,hx85,ok_bind,hk90]; first | done | rfl)
   refine gk_split ?_
   refine gk_conv (R':=Box b3 [.string x7.1,.int .i64 ((x13.1).getD 0 0),.int .i64 ((x17.1).getD 0 0),.int .i64 ((x21.1).getD 0 0),.int .i64 ((x25.1).getD 0 0),.slice ha acc.length hc,.int .i64 ((x55.1).getD 0 0),.int .i64 ((x59.1).getD 0 0),.int .i64 ((x63.1).getD 0 0),.int .i64 ((x68.1).getD 0 0),.int .i64 (((x68.1.drop 1)).getD 0 0),.int .i64 ((x73.1).getD 0 0),.int .i64 (((x73.1.drop 1)).getD 0 0),.int .u8 x78.1,.int .i64 ((x85.1).getD 0 0),.int .i64 (((x85.1.drop 1)).getD 0 0),.int .i64 ((((x85.1.drop 1).drop 1)).getD 0 0),.int .i64 ((x90.1).getD 0 0),.int .i64 (((x90.1.drop 1)).getD 0 0),.int .i64 0] 41) 1 rfl (fun B w hA=>hA) ?_
   refine gk_dropAt 2 rfl ?_
   refine gk_nil (gk_sub (T':=[(2,_),(3,_),(4,_)]) ⟨rfl,rfl,rfl,trivial⟩ ?_)
   refine gk_seq ?_
   refine gk_region ?_
   refine gk_y rfl rfl (y_move rfl) ?_
   refine gk_y rfl rfl (y_fieldAddr fo41_19 rfl) ?_
   refine gk_yx rfl rfl (yx_buildSlice rfl (bs206_1 (b3,19)) encFld_ok rfl) fun b93=>?_
   refine gk_front 2 rfl ?_
   refine gk_front 2 rfl ?_
   refine gk_pack 2 ?_
   refine gk_callVE (res:=oneE (⟨#[114,111,111,100]⟩:ByteArray) 1 x90.2) (fs:=[]) (cap:=[_]) 0 en131 rfl rfl rfl rfl (fun w B hF=>one_c r x90.2 b3 [.string x7.1,.int .i64 ((x13.1).getD 0 0),.int .i64 ((x17.1).getD 0 0),.int .i64 ((x21.1).getD 0 0),.int .i64 ((x25.1).getD 0 0),.slice ha acc.length hc,.int .i64 ((x55.1).getD 0 0),.int .i64 ((x59.1).getD 0 0),.int .i64 ((x63.1).getD 0 0),.int .i64 ((x68.1).getD 0 0),.int .i64 (((x68.1.drop 1)).getD 0 0),.int .i64 ((x73.1).getD 0 0),.int .i64 (((x73.1.drop 1)).getD 0 0),.int .u8 x78.1,.int .i64 ((x85.1).getD 0 0),.int .i64 (((x85.1.drop 1)).getD 0 0),.int .i64 ((((x85.1.drop 1).drop 1)).getD 0 0),.int .i64 ((x90.1).getD 0 0),.int .i64 (((x90.1.drop 1)).getD 0 0),.int .i64 0] 41 [19] [(b3,19)] _ _ (⟨#[114,111,111,100]⟩:ByteArray) b1 w B (fun k hk=>(hF.own k hk).2) hF.A (rd_row encFld_ok (hF.other 0 rfl)) rfl (by intro o ho; simp at ho; simp; omega) (by simp [Small]) (hF.other 1 rfl)) (fun k hk94=>?_) (fun x94 m94 hx94=>?_)
   ·
    exact gk_thrownE (by rw [sheetE,hx7,ok_bind,hx13,ok_bind,hx17,ok_bind,hx21,ok_bind,hx25,ok_bind,hx27,ok_bind,hh6,ok_bind,hx55,ok_bind,hx59,ok_bind,hx63,ok_bind,hx68,ok_bind,hx73,ok_bind,hx75,ok_bind,hx78,ok_bind,hx85,ok_bind,hx90,ok_bind,hk94]; first | done | rfl)
   refine gk_split ?_
   refine gk_conv (R':=Box b3 [.string x7.1,.int .i64 ((x13.1).getD 0 0),.int .i64 ((x17.1).getD 0 0),.int .i64 ((x21.1).getD 0 0),.int .i64 ((x25.1).getD 0 0),.slice ha acc.length hc,.int .i64 ((x55.1).getD 0 0),.int .i64 ((x59.1).getD 0 0),.int .i64 ((x63.1).getD 0 0),.int .i64 ((x68.1).getD 0 0),.int .i64 (((x68.1.drop 1)).getD 0 0),.int .i64 ((x73.1).getD 0 0),.int .i64 (((x73.1.drop 1)).getD 0 0),.int .u8 x78.1,.int .i64 ((x85.1).getD 0 0),.int .i64 (((x85.1.drop 1)).getD 0 0),.int .i64 ((((x85.1.drop 1).drop 1)).getD 0 0),.int .i64 ((x90.1).getD 0 0),.int .i64 (((x90.1.drop 1)).getD 0 0),.int .i64 ((x94.1).getD 0 0)] 41) 1 rfl (fun B w hA=>hA) ?_
   refine gk_dropAt 2 rfl ?_
   refine gk_nil (gk_sub (T':=[(2,_),(3,_)]) ⟨rfl,rfl,trivial⟩ ?_)
   refine gk_seq ?_
   refine gk_seq ?_
   refine gk_region ?_
   refine gk_y rfl rfl (y_fieldAddr fo41_5 rfl) ?_
   refine gk_y rfl rfl (y_loadB1 1 tf35 rfl rfl rfl) ?_
   refine gk_y rfl rfl (y_lenS (Tryz.underlying35) rfl) ?_
   refine gk_y rfl rfl (y_eql rfl rfl) ?_
   refine gk_nil (gk_sub (T':=[(2,_),(3,_),(98,_)]) ⟨rfl,rfl,rfl,trivial⟩ ?_)
   refine gk_cond rfl (fun hc98=>?_) (fun hc98=>?_)
   ·have h98:acc.length=0:=by have:=of_decide_eq_true hc98; omega
    refine gk_region ?_
    refine gk_callP en91 rfl (fun w hw=>fail_c _ w) ?_
    exact gk_thrownE (by rw [sheetE,hx7,ok_bind,hx13,ok_bind,hx17,ok_bind,hx21,ok_bind,hx25,ok_bind,hx27,ok_bind,hh6,ok_bind,hx55,ok_bind,hx59,ok_bind,hx63,ok_bind,hx68,ok_bind,hx73,ok_bind,hx75,ok_bind,hx78,ok_bind,hx85,ok_bind,hx90,ok_bind,hx94,ok_bind]; exact if_pos h98)
   ·have h98:¬ acc.length=0:=by have:=of_decide_eq_false hc98; omega
    refine gk_skip ?_
    refine gk_seq ?_
    refine gk_region ?_
    refine gk_y rfl rfl (y_loadBA 1 tf41 rfl rfl (vs:=[_,_,_,_,_,_,_,_,_,_,_,_,_,_,_,_,_,_,_,_]) rfl rfl) ?_
    refine gk_storeAll 4 tf41 rfl rfl (vs:=[_,_,_,_,_,_,_,_,_,_,_,_,_,_,_,_,_,_,_,_]) rfl rfl rfl rfl rfl ?_
    refine gk_nil (gk_sub (T':=[(2,_)]) ⟨rfl,trivial⟩ ?_)
    refine gk_front 3 rfl ?_
    refine gk_front 1 rfl ?_
    refine gk_pack 2 ?_
    refine gk_ret ?_
    exact gk_turnsE (⟨x7.1,x13.1.getD 0 0,x17.1.getD 0 0,x21.1.getD 0 0,x25.1.getD 0 0,acc,x55.1.getD 0 0,x59.1.getD 0 0,x63.1.getD 0 0,x68.1.getD 0 0,(x68.1.drop 1).getD 0 0,x73.1.getD 0 0,(x73.1.drop 1).getD 0 0,x78.1,x85.1.getD 0 0,(x85.1.drop 1).getD 0 0,((x85.1.drop 1).drop 1).getD 0 0,x90.1.getD 0 0,(x90.1.drop 1).getD 0 0,x94.1.getD 0 0⟩,x94.2) (ha,hc) 0 (rv_one rfl (r1_cellA (i:=3) (vs:=[.string x7.1,.int .i64 ((x13.1).getD 0 0),.int .i64 ((x17.1).getD 0 0),.int .i64 ((x21.1).getD 0 0),.int .i64 ((x25.1).getD 0 0),.slice ha acc.length hc,.int .i64 ((x55.1).getD 0 0),.int .i64 ((x59.1).getD 0 0),.int .i64 ((x63.1).getD 0 0),.int .i64 ((x68.1).getD 0 0),.int .i64 (((x68.1.drop 1)).getD 0 0),.int .i64 ((x73.1).getD 0 0),.int .i64 (((x73.1.drop 1)).getD 0 0),.int .u8 x78.1,.int .i64 ((x85.1).getD 0 0),.int .i64 (((x85.1.drop 1)).getD 0 0),.int .i64 ((((x85.1.drop 1).drop 1)).getD 0 0),.int .i64 ((x90.1).getD 0 0),.int .i64 (((x90.1.drop 1)).getD 0 0),.int .i64 ((x94.1).getD 0 0)]) tf41 rfl rfl rfl rfl)) rfl rfl (by rw [sheetE,hx7,ok_bind,hx13,ok_bind,hx17,ok_bind,hx21,ok_bind,hx25,ok_bind,hx27,ok_bind,hh6,ok_bind,hx55,ok_bind,hx59,ok_bind,hx63,ok_bind,hx68,ok_bind,hx73,ok_bind,hx75,ok_bind,hx78,ok_bind,hx85,ok_bind,hx90,ok_bind,hx94,ok_bind]; exact if_neg h98)
end Go.Proofs.YtdcfcfhmkfkgmaaGreatDoor
namespace Go.Proofs.YtdcfcfhmkfkgmaaGreatDoor
open Go.K Go.Stn Go.Pln Go.RowKit
theorem tf31:TF Tryz.prog 31 true 2 (.agg #[.slice none 0 0,.slice none 0 0]):=⟨by kernel_rfl,by kernel_rfl⟩
theorem tf157:TF Tryz.prog 157 false 1 (.pointer none):=⟨by kernel_rfl,by kernel_rfl⟩
theorem af28:AF Tryz.prog 28 41 20 184 [.string ⟨#[]⟩,.int IntKind.i64 0,.int IntKind.i64 0,.int IntKind.i64 0,.int IntKind.i64 0,.slice none 0 0,.int IntKind.i64 0,.int IntKind.i64 0,.int IntKind.i64 0,.int IntKind.i64 0,.int IntKind.i64 0,.int IntKind.i64 0,.int IntKind.i64 0,.int IntKind.u8 0,.int IntKind.i64 0,.int IntKind.i64 0,.int IntKind.i64 0,.int IntKind.i64 0,.int IntKind.i64 0,.int IntKind.i64 0]:=⟨Tryz.underlying28,by kernel_rfl,rfl⟩
theorem en46:En Tryz.prog 46:=en_of Tryz.func46 (by kernel_rfl) (by kernel_rfl)
theorem en110:En Tryz.prog 110:=en_of Tryz.func110 (by kernel_rfl) (by kernel_rfl)
theorem en111:En Tryz.prog 111:=en_of Tryz.func111 (by kernel_rfl) (by kernel_rfl)
theorem bs28_1 (x0:ShC) (w:World):(Instr.buildSlice 28 1 #[(0,.agg #[.string x0.s.name,.int .i64 x0.s.base,.int .i64 x0.s.batter,.int .i64 x0.s.height,.int .i64 x0.s.skin,.slice x0.a x0.s.heights.length x0.cap,.int .i64 x0.s.least,.int .i64 x0.s.lap,.int .i64 x0.s.run,.int .i64 x0.s.every,.int .i64 x0.s.at_,.int .i64 x0.s.footing,.int .i64 x0.s.spread,.int .u8 x0.s.cope,.int .i64 x0.s.tall,.int .i64 x0.s.short,.int .i64 x0.s.thick,.int .i64 x0.s.low,.int .i64 x0.s.high,.int .i64 x0.s.rood])]).run Tryz.prog w=.ok (.slice (some ⟨w.heap.size,0,none⟩) 1 1) (w.alloc (.cells (([x0]:List (ShC)).flatMap encSht).toArray 41)):=by kernel_rfl
abbrev yP:PTy:=⟨31,41,94,3,98⟩
abbrev PlP (p:Nat) (q:Plan):Res:=PlE yP p q
set_option maxRecDepth 100000 in
set_option maxHeartbeats 8000000 in
theorem form1_c (r:Nat) (ws:List ByteArray) (p:Nat) (q:Plan) (bp:Nat) (w:World) (B:Nat→Prop) (hB:∀ k,B k→k < w.heap.size) (hA:(SepR [Rdr 161 r ws,PlP p q]).A B w) (hq:OkQ q) (hb:Rd (fun k=>k < w.heap.size∧¬ B k) w (Box bp [.pointer (some ⟨p,0,none⟩)] 157)) (hws:ws.length≤100000) (hcp:Rd (fun k=>k < w.heap.size∧¬ B k) w (Elems (some ⟨0,0,none⟩) 1 encS copesW)) :
  Calls Tryz.prog 109 #[.pointer (some ⟨r,0,none⟩),.pointer (some ⟨bp,0,none⟩)] w (TurnsF 33 (sheetLineE q ws) (fun _x (_:Unit)=>.tuple #[]) (fun x _=>PlP p x) (plAt yP p) B w):=by
 refine calls_of_gkB hB hA (vs:=[_,_]) Tryz.func109 rfl rfl (Nat.le_of_ble_eq_true rfl) ?_
 refine gk_split ?_
 refine gk_seq ?_
 refine gk_region ?_
 refine gk_y rfl rfl (y_move rfl) ?_
 refine gk_callE (res:=sheetE ws) 0 en110 rfl rfl rfl (fun w B hF=>sheet_c r ws w B (fun k hk=>(hF.own k hk).2) hF.A hws (hF.rd hcp)) (fun k hk7=>?_) (fun x7 m7 hx7=>?_)
 ·
  exact gk_thrownF 1 rfl plAt_pl (by rw [sheetLineE,hk7]; first | done | rfl)
 refine gk_split ?_
 refine gk_yx rfl rfl (yx_alloc tf41 (zs:=[_,_,_,_,_,_,_,_,_,_,_,_,_,_,_,_,_,_,_,_]) rfl) fun b3=>?_
 refine gk_storeAll 0 tf41 rfl rfl (vs:=[_,_,_,_,_,_,_,_,_,_,_,_,_,_,_,_,_,_,_,_]) rfl rfl rfl rfl rfl ?_
 refine gk_nil (gk_sub (T':=[(0,_),(1,_),(3,_)]) ⟨rfl,rfl,rfl,trivial⟩ ?_)
 refine gk_seq ?_
 refine gk_region ?_
 refine gk_y rfl rfl (y_move rfl) ?_
 refine gk_callE (res:=endE x7.2) 1 en111 rfl rfl rfl (fun w B hF=>end_c r x7.2 w B (fun k hk=>(hF.own k hk).2) hF.A) (fun k hk9=>?_) (fun x9 m9 hx9=>?_)
 ·
  exact gk_thrownF 3 rfl plAt_pl (by rw [sheetLineE,hx7,ok_bind,hk9]; first | done | rfl)
 refine gk_nil (gk_sub (T':=[(1,_),(3,_)]) ⟨rfl,rfl,trivial⟩ ?_)
 refine gk_front 3 rfl ?_
 refine gk_openPl fun sa sc S wa wc V hS hV=>?_
 have hlS:S.length=q.S.length:=by rw [←hS,List.length_map]
 have hlV:V.length=q.V.length:=by rw [←hV,List.length_map]
 have hq20:=hq.ls
 have hq50:=hq.lv
 refine gk_seq ?_
 refine gk_any3 (ch [(9,Nat)]) 12 [0,1,3,0,8,31,63,127,127,0,767,2047] (fun _=>mixed) (by kernel_rfl) (ch_ne _ ⟨inferInstance,trivial⟩) ?_
 refine ph3_y (fun ρ=>y_load1 tf157 rfl (fun _ hw=>has_box_cell (Rd.has hb hw) rfl)) (fun ρ ρ' h=>by rfl) ?_
 refine ph3_y (fun ρ=>y_nilCheck rfl) (fun ρ ρ' h=>by rfl) ?_
 refine ph3_y (fun ρ=>y_loadBA 0 tf31 rfl rfl (vs:=[_,_]) rfl rfl) (fun ρ ρ' h=>by rfl) ?_
 refine ph3_y (fun ρ=>y_fieldAddr fo41_0 rfl) (fun ρ ρ' h=>by rfl) ?_
 refine ph3_y (fun ρ=>y_loadB1 5 tf9 rfl rfl rfl) (fun ρ ρ' h=>by rfl) ?_
 refine ph3_y (fun ρ=>y_call en46 rfl (fun w hw=>plsheet_c _ _ S _ _ _ x7.1.name w (has_row encSht_ok (hw.has (p:=1) rfl)) (by unfold Small; omega))) (fun ρ ρ' h=>by rfl) ?_
 refine ph3_y (fun ρ=>y_move rfl) (fun ρ ρ' h=>by rfl) ?_
 refine ph3_y (fun ρ=>y_extract rfl rfl) (fun ρ ρ' h=>by rfl) ?_
 refine ph3_y (fun ρ=>y_extract rfl rfl) (fun ρ ρ' h=>by rfl) ?_
 refine ph3_yx (fun ρ=>yx_alloc tf41 (zs:=[_,_,_,_,_,_,_,_,_,_,_,_,_,_,_,_,_,_,_,_]) rfl) (fun ρ ρ' h=>⟨by rfl,by rfl⟩) ?_
 refine ph3_st (R:=fun ρ=>Box (ρ 9) [.string ⟨#[]⟩,.int .i64 0,.int .i64 0,.int .i64 0,.int .i64 0,.slice none 0 0,.int .i64 0,.int .i64 0,.int .i64 0,.int .i64 0,.int .i64 0,.int .i64 0,.int .i64 0,.int .u8 0,.int .i64 0,.int .i64 0,.int .i64 0,.int .i64 0,.int .i64 0,.int .i64 0] 41) (A:=fun ρ=>Box (ρ 9) [.string (getSh S x7.1.name).s.name,.int .i64 ((getSh S x7.1.name).s.base),.int .i64 ((getSh S x7.1.name).s.batter),.int .i64 ((getSh S x7.1.name).s.height),.int .i64 ((getSh S x7.1.name).s.skin),.slice (getSh S x7.1.name).a (getSh S x7.1.name).s.heights.length (getSh S x7.1.name).cap,.int .i64 ((getSh S x7.1.name).s.least),.int .i64 ((getSh S x7.1.name).s.lap),.int .i64 ((getSh S x7.1.name).s.run),.int .i64 ((getSh S x7.1.name).s.every),.int .i64 ((getSh S x7.1.name).s.at_),.int .i64 ((getSh S x7.1.name).s.footing),.int .i64 ((getSh S x7.1.name).s.spread),.int .u8 (getSh S x7.1.name).s.cope,.int .i64 ((getSh S x7.1.name).s.tall),.int .i64 ((getSh S x7.1.name).s.short),.int .i64 ((getSh S x7.1.name).s.thick),.int .i64 ((getSh S x7.1.name).s.low),.int .i64 ((getSh S x7.1.name).s.high),.int .i64 ((getSh S x7.1.name).s.rood)] 41) 9 rfl rfl (fun _=>rfl) (fun ρ=>so_box tf41 rfl rfl (vs:=[_,_,_,_,_,_,_,_,_,_,_,_,_,_,_,_,_,_,_,_]) rfl rfl rfl rfl rfl) (fun ρ ρ' h=>by(first | rfl | simp only [h 9 rfl])) ?_
 refine ph3_y (fun ρ=>y_assign rfl) (fun ρ ρ' h=>by rfl) ?_
 refine fun ρ=>gk_nil (gk_name (X:=Nat) (ρ 9) (fun b4=>[(1,.pointer (some ⟨bp,0,none⟩)),(3,.pointer (some ⟨b3,0,none⟩)),(5,.bool (decide (0≤sheetI S x7.1.name)))]) (fun b4=>[Box b4 [.string (getSh S x7.1.name).s.name,.int .i64 ((getSh S x7.1.name).s.base),.int .i64 ((getSh S x7.1.name).s.batter),.int .i64 ((getSh S x7.1.name).s.height),.int .i64 ((getSh S x7.1.name).s.skin),.slice (getSh S x7.1.name).a (getSh S x7.1.name).s.heights.length (getSh S x7.1.name).cap,.int .i64 ((getSh S x7.1.name).s.least),.int .i64 ((getSh S x7.1.name).s.lap),.int .i64 ((getSh S x7.1.name).s.run),.int .i64 ((getSh S x7.1.name).s.every),.int .i64 ((getSh S x7.1.name).s.at_),.int .i64 ((getSh S x7.1.name).s.footing),.int .i64 ((getSh S x7.1.name).s.spread),.int .u8 (getSh S x7.1.name).s.cope,.int .i64 ((getSh S x7.1.name).s.tall),.int .i64 ((getSh S x7.1.name).s.short),.int .i64 ((getSh S x7.1.name).s.thick),.int .i64 ((getSh S x7.1.name).s.low),.int .i64 ((getSh S x7.1.name).s.high),.int .i64 ((getSh S x7.1.name).s.rood)] 41,Box p [.slice sa S.length sc,.slice wa V.length wc] 31,Row sa 20 sc 41 encSht S,Go.K.Rows (rowH 3) S,Row wa 4 wc 94 encWll V,Go.K.Rows (rowO 98) V,Box b3 [.string x7.1.name,.int .i64 x7.1.base,.int .i64 x7.1.batter,.int .i64 x7.1.height,.int .i64 x7.1.skin,.slice m7.1 x7.1.heights.length m7.2,.int .i64 x7.1.least,.int .i64 x7.1.lap,.int .i64 x7.1.run,.int .i64 x7.1.every,.int .i64 x7.1.at_,.int .i64 x7.1.footing,.int .i64 x7.1.spread,.int .u8 x7.1.cope,.int .i64 x7.1.tall,.int .i64 x7.1.short,.int .i64 x7.1.thick,.int .i64 x7.1.low,.int .i64 x7.1.high,.int .i64 x7.1.rood] 41,Rdr 161 r x9.2,Row m7.1 1 m7.2 3 Go.Stn.encI x7.1.heights]) ⟨rfl,rfl,rfl,trivial⟩ rfl ?_)
 rintro b4
 refine gk_seq ?_
 refine gk_block ?_
 refine gk_seq ?_
 refine gk_region ?_
 refine gk_y rfl rfl (y_move rfl) ?_
 refine gk_y rfl rfl (y_assign rfl) ?_
 refine gk_nil (gk_sub (T':=[(1,_),(3,_),(19,_)]) ⟨rfl,rfl,rfl,trivial⟩ ?_)
 refine gk_cond rfl (fun hc19=>?_) (fun hc19=>?_)
 ·have h19:0≤sheetJ q.S x7.1.name:=by have:=of_decide_eq_true hc19; rwa [sheetI_J,hS] at this
  refine gk_region ?_
  refine gk_callP en91 rfl (fun w hw=>fail_c _ w) ?_
  exact gk_thrownF 1 rfl (plAt_box (y:=yP)) (by rw [sheetLineE,hx7,ok_bind,hx9,ok_bind]; exact if_pos h19)
 ·have h19:¬ 0≤sheetJ q.S x7.1.name:=by have:=of_decide_eq_false hc19; rwa [sheetI_J,hS] at this
  refine gk_seq ?_
  refine gk_region ?_
  refine gk_y rfl rfl (y_loadBA 6 tf41 rfl rfl (vs:=[_,_,_,_,_,_,_,_,_,_,_,_,_,_,_,_,_,_,_,_]) rfl rfl) ?_
  refine gk_y rfl rfl (y_call en20 rfl (fun w hw=>checksheet_c _ _ x7.1 w (has_row Go.Stn.encI_ok (hw.has (p:=8) rfl)) (by have:=sheet_heights hx7; unfold Small; omega))) ?_
  refine gk_y rfl rfl (y_neq rfl rfl) ?_
  refine gk_y rfl rfl (y_assign rfl) ?_
  refine gk_nil (gk_sub (T':=[(1,_),(3,_),(22,_)]) ⟨rfl,rfl,rfl,trivial⟩ ?_)
  refine gk_cond rfl (fun hc22=>?_) (fun hc22=>?_)
  ·have h22:¬ sheetP x7.1=true:=fun h=>by simp [check_zero.2 h] at hc22
   refine gk_region ?_
   refine gk_callP en91 rfl (fun w hw=>fail_c _ w) ?_
   exact gk_thrownF 1 rfl (plAt_box (y:=yP)) (by rw [sheetLineE,hx7,ok_bind,hx9,ok_bind]; exact(if_neg h19).trans (if_neg h22))
  ·have h22:sheetP x7.1=true:=check_zero.1 (by simpa using hc22)
   refine gk_seq ?_
   refine gk_region ?_
   refine gk_y rfl rfl (y_load1 tf157 rfl (fun _ hw=>has_box_cell (Rd.has hb hw) rfl)) ?_
   refine gk_y rfl rfl (y_nilCheck rfl) ?_
   refine gk_y rfl rfl (y_fieldAddr fo31_0 rfl) ?_
   refine gk_y rfl rfl (y_loadB1 1 tf28 rfl rfl rfl) ?_
   refine gk_y rfl rfl (y_lenS (Tryz.underlying28) rfl) ?_
   refine gk_y rfl rfl (y_eql rfl rfl) ?_
   refine gk_y rfl rfl (y_assign rfl) ?_
   refine gk_nil (gk_sub (T':=[(1,_),(3,_),(27,_)]) ⟨rfl,rfl,rfl,trivial⟩ ?_)
   refine gk_cond rfl (fun hc27=>?_) (fun hc27=>?_)
   ·have h27:q.S.length=20:=by have:=of_decide_eq_true hc27; omega
    refine gk_region ?_
    refine gk_callP en91 rfl (fun w hw=>fail_c _ w) ?_
    exact gk_thrownF 1 rfl (plAt_box (y:=yP)) (by rw [sheetLineE,hx7,ok_bind,hx9,ok_bind]; exact(if_neg h19).trans ((if_pos h22).trans (if_pos h27)))
   ·have h27:¬ q.S.length=20:=by have:=of_decide_eq_false hc27; omega
    refine gk_skip ?_
    refine gk_anyC (V:=fun z=>.slice z.1 ((S++[(⟨x7.1,m7.1,m7.2⟩:ShC)])).length z.2) (R':=fun z:Option Addr×Nat=>Row z.1 20 z.2 41 encSht (S++[(⟨x7.1,m7.1,m7.2⟩:ShC)])) (Bad:=fun _=>False) 7 [0] 2 42 (fun _=>mixed) rfl rfl (by kernel_rfl) rfl (fun _ hb=>hb.elim) rfl ?_
    refine phs_y (y_load1 tf157 rfl (fun _ hw=>has_box_cell (Rd.has hb hw) rfl)) ?_
    refine phs_y (y_load1 tf157 rfl (fun _ hw=>has_box_cell (Rd.has hb hw) rfl)) ?_
    refine phs_y (y_nilCheck rfl) ?_
    refine phs_y (y_fieldAddr fo31_0 rfl) ?_
    refine phs_y (y_loadB1 1 tf28 rfl rfl rfl) ?_
    refine phs_y (y_loadBA 6 tf41 rfl rfl (vs:=[_,_,_,_,_,_,_,_,_,_,_,_,_,_,_,_,_,_,_,_]) rfl rfl) ?_
    refine phs_yx (yx_buildSlice rfl (bs28_1 (⟨x7.1,m7.1,m7.2⟩:ShC)) encSht_ok rfl) ?_
    refine⟨fun b41=>co_append (m:=[(⟨x7.1,m7.1,m7.2⟩:ShC)]) af28 encSht_ok rfl rfl (fun _ hw=>(has_row encSht_ok (hw.has (p:=0) rfl))) (by first | omega | (simp only [List.length_cons,List.length_nil]; omega)) (by first | (unfold maxLen; omega) | (simp only [List.length_cons,List.length_nil,maxLen]; omega)),?_⟩
    intro z42
    intro b41
    refine gk_sub (T':=[(35,_),(42,_)]) ⟨rfl,rfl,trivial⟩ ?_
    refine gk_y rfl rfl (y_nilCheck rfl) ?_
    refine gk_y rfl rfl (y_fieldAddr fo31_0 rfl) ?_
    refine gk_storeV 2 tf28 rfl rfl (vs:=[_]) rfl rfl rfl rfl rfl ?_
    refine gk_nil (gk_sub (T':=[]) trivial ?_)
    refine gk_front 9 rfl ?_
    refine gk_front 5 rfl ?_
    refine gk_pack 2 ?_
    refine gk_conv (R':=Go.K.Rows (rowH 3) (S++[(⟨x7.1,m7.1,m7.2⟩:ShC)])) 0 rfl (fun B w hA=>rows_snoc (f:=rowH 3) hA) ?_
    refine gk_front 6 rfl ?_
    refine gk_front 6 rfl ?_
    refine gk_front 2 rfl ?_
    refine gk_front 6 rfl ?_
    refine gk_front 6 rfl ?_
    refine gk_closePl (y:=yP) (q:=⟨q.S++[x7.1],q.V⟩) (by rw [List.map_append,hS]; rfl) (hV) ?_
    exact gk_turnsF ⟨q.S++[x7.1],q.V⟩ () 0 (rv_none rfl) rfl rfl (by rw [sheetLineE,hx7,ok_bind,hx9,ok_bind]; exact(if_neg h19).trans ((if_pos h22).trans (if_neg h27)))
end Go.Proofs.YtdcfcfhmkfkgmaaGreatDoor
namespace Go.Stn
open Go Go.K Go.RowKit
structure OnH (x a b:Pt) (D t:Int):Prop where
 pos:0 < D
 t0:0≤t
 t1:t < D
 ex:D*(x.x - a.x)=t*(b.x - a.x)
 ez:D*(x.z - a.z)=t*(b.z - a.z)
theorem OnH.lin {x a b:Pt} {D t:Int} (h:OnH x a b D t) (u v:Pt):D*sideZ u v x=(D - t)*sideZ u v a+t*sideZ u v b:=by
 have e1:=h.ex
 have e2:=h.ez
 unfold sideZ
 have f1:D*(x.x - u.x)=t*(b.x - a.x)+D*(a.x - u.x):=by rw [←e1]; grind
 have f2:D*(x.z - u.z)=t*(b.z - a.z)+D*(a.z - u.z):=by rw [←e2]; grind
 calc D*((v.x - u.x)*(x.z - u.z) - (v.z - u.z)*(x.x - u.x))=(v.x - u.x)*(D*(x.z - u.z)) - (v.z - u.z)*(D*(x.x - u.x)):=by grind
  _=_:=by rw [f1,f2]; grind
theorem OnH.start {x a b:Pt} {D:Int} (h:OnH x a b D 0):x=a:=by
 have e1:=h.ex
 have e2:=h.ez
 have hp:=h.pos
 rw [Int.zero_mul,Int.mul_eq_zero] at e1 e2
 cases x; cases a
 simp only [Pt.mk.injEq]
 dsimp only at *
 omega
theorem OnH.at {a b:Pt} (D:Int) (h:0 < D):OnH a a b D 0:=⟨h,Int.le_refl _,h,by simp,by simp⟩
theorem side_same1 (u v:Pt):sideZ u u v=0:=by unfold sideZ; grind
theorem side_same2 (u v:Pt):sideZ u v v=0:=by unfold sideZ; grind
theorem side_same3 (u v:Pt):sideZ u v u=0:=by unfold sideZ; grind
theorem side_swap (u v w:Pt):sideZ u v w = -sideZ u w v:=by unfold sideZ; grind
theorem side_cyc2 (u v w:Pt):sideZ u v w=sideZ w u v:=by unfold sideZ; grind
theorem plucker (o e u v w:Pt):sideZ o e v*sideZ o u w=sideZ o e u*sideZ o v w+sideZ o e w*sideZ o u v:=by unfold sideZ; grind
theorem cor_mod (l:List Pt) (i:Nat):cor l (i % l.length)=cor l i:=by unfold cor; rw [Nat.mod_mod]
theorem cor_congr {l:List Pt} {i j:Nat} (h:i % l.length=j % l.length):cor l i=cor l j:=by unfold cor; rw [h]
theorem cor_add_mod (l:List Pt) (i k:Nat):cor l (i % l.length+k)=cor l (i+k):=by unfold cor; rw [Nat.mod_add_mod]
theorem Cvx.edge {l:List Pt} (h:Cvx l) (i k:Nat) (h2:2≤k) (hk:k < l.length):0 < sideZ (cor l i) (cor l (i+1)) (cor l (i+k)):=by
 have:=h (i % l.length) k (Nat.mod_lt _ (by omega)) h2 hk
 rwa [cor_mod,cor_add_mod,cor_add_mod] at this
theorem Cvx.tri {l:List Pt} (h:Cvx l) (a i:Nat) (hi:0 < i):∀ j,i < j→j < l.length→0 < sideZ (cor l a) (cor l (a+i)) (cor l (a+j)):=by
 intro j
 induction j with
 | zero=>intro hj; omega
 | succ j ih=>
  intro hj hn
  have hnext:∀ i,0 < i→i+1 < l.length→0 < sideZ (cor l a) (cor l (a+i)) (cor l (a+(i+1))):=fun i h0 h1=>by
   have:=h.edge (a+i) (l.length - i) (by omega) (by omega)
   rw [show a+i+(l.length - i)=a+l.length from by omega,cor_add,Nat.add_assoc] at this
   rw [side_cyc]
   exact this
  by_cases hij:i=j
  ·subst hij; exact hnext i hi hn
  ·have h1:=ih (by omega) (by omega)
   have h2:=hnext j (by omega) hn
   have e0:0≤sideZ (cor l a) (cor l (a+1)) (cor l (a+i)):=by
    by_cases h1:i=1
    ·subst h1; rw [side_same2]; omega
    ·exact Int.le_of_lt (h.edge a i (by omega) (by omega))
   have e1:=h.edge a j (by omega) (by omega)
   have e2:=h.edge a (j+1) (by omega) (by omega)
   have hp:=plucker (cor l a) (cor l (a+1)) (cor l (a+i)) (cor l (a+j)) (cor l (a+(j+1)))
   have p1:0≤sideZ (cor l a) (cor l (a+1)) (cor l (a+i))*sideZ (cor l a) (cor l (a+j)) (cor l (a+(j+1))):=Int.mul_nonneg e0 (Int.le_of_lt h2)
   have p2:0 < sideZ (cor l a) (cor l (a+1)) (cor l (a+(j+1)))*sideZ (cor l a) (cor l (a+i)) (cor l (a+j)):=Int.mul_pos e2 h1
   have p3:0 < sideZ (cor l a) (cor l (a+1)) (cor l (a+j))*sideZ (cor l a) (cor l (a+i)) (cor l (a+(j+1))):=by omega
   exact Int.pos_of_mul_pos_right p3 e1
theorem Cvx.tri3 {l:List Pt} (h:Cvx l) {i j k:Nat} (hij:i < j) (hjk:j < k) (hk:k < i+l.length):0 < sideZ (cor l i) (cor l j) (cor l k):=by
 have:=h.tri i (j - i) (by omega) (k - i) (by omega) (by omega)
 rwa [show i+(j - i)=j from by omega,show i+(k - i)=k from by omega] at this
theorem Cvx.tri0 {l:List Pt} (h:Cvx l) {i j k:Nat} (hij:i≤j) (hjk:j≤k) (hk:k≤i+l.length):0≤sideZ (cor l i) (cor l j) (cor l k):=by
 by_cases h1:i=j
 ·subst h1; rw [side_same1]; omega
 ·by_cases h2:j=k
  ·subst h2; rw [side_same2]; omega
  ·by_cases h3:k=i+l.length
   ·subst h3; rw [cor_add,side_same3]; omega
   ·exact Int.le_of_lt (h.tri3 (by omega) (by omega) (by omega))
theorem nn2 {a b c d:Int} (h1:0≤a) (h2:0≤b) (h3:0≤c) (h4:0≤d):0≤a*b+c*d:=Int.add_nonneg (Int.mul_nonneg h1 h2) (Int.mul_nonneg h3 h4)
theorem np2 {a b c d:Int} (h1:0≤a) (h2:b≤0) (h3:0≤c) (h4:d≤0):a*b+c*d≤0:=by
 have:=Int.mul_nonpos_of_nonneg_of_nonpos h1 h2
 have:=Int.mul_nonpos_of_nonneg_of_nonpos h3 h4
 omega
theorem pos2l {a b c d:Int} (h1:0 < a) (h2:0 < b) (h3:0≤c) (h4:0≤d):0 < a*b+c*d:=by
 have:=Int.mul_pos h1 h2
 have:=Int.mul_nonneg h3 h4
 omega
theorem pos2r {a b c d:Int} (h1:0≤a) (h2:0≤b) (h3:0 < c) (h4:0 < d):0 < a*b+c*d:=by
 have:=Int.mul_nonneg h1 h2
 have:=Int.mul_pos h3 h4
 omega
theorem nonpos_of {a b:Int} (h1:0 < a) (h2:a*b≤0):b≤0:=Classical.byContradiction fun h=>by
 have:=Int.mul_pos h1 (show 0 < b by omega)
 omega
theorem nonneg_of {a b:Int} (h1:0 < a) (h2:0≤a*b):0≤b:=Classical.byContradiction fun h=>by
 have:=Int.mul_pos h1 (show 0 < -b by omega)
 rw [Int.mul_neg] at this
 omega
theorem pos_of {a b:Int} (h1:0 < a) (h2:0 < a*b):0 < b:=Int.pos_of_mul_pos_right h2 h1
section
variable {l:List Pt} {p q:Pt} {a m:Nat} {D s E t:Int}
theorem side_pc (hp:OnH p (cor l a) (cor l (a+1)) D s) (x y:Pt):D*sideZ p x y=(D - s)*sideZ (cor l a) x y+s*sideZ (cor l (a+1)) x y:=by
 have:=hp.lin x y
 rw [side_cyc2 x y p,side_cyc2 x y (cor l a),side_cyc2 x y (cor l (a+1))] at this
 exact this
theorem side_qc {b:Nat} (hq:OnH q (cor l b) (cor l (b+1)) E t) (x y:Pt):E*sideZ x q y=(E - t)*sideZ x (cor l b) y+t*sideZ x (cor l (b+1)) y:=by
 have:=hq.lin y x
 rw [side_cyc y x q,side_cyc y x (cor l b),side_cyc y x (cor l (b+1))] at this
 exact this
theorem arc_pos (h:Cvx l) (hp:OnH p (cor l a) (cor l (a+1)) D s) (hq:OnH q (cor l (a+m)) (cor l (a+m+1)) E t) (hm:1≤m) {k:Nat} (h1:m < k) (h2:k < l.length):0 < sideZ p q (cor l (a+k)):=by
 refine pos_of hp.pos ?_
 rw [side_pc hp]
 have f1:0 < sideZ (cor l a) q (cor l (a+k)):=by
  refine pos_of hq.pos ?_
  rw [side_qc hq]
  exact pos2l (by have:=hq.t1; omega) (h.tri3 (by omega) (by omega) (by omega)) hq.t0 (h.tri0 (by omega) (by omega) (by omega))
 have f2:0≤sideZ (cor l (a+1)) q (cor l (a+k)):=by
  refine nonneg_of hq.pos ?_
  rw [side_qc hq]
  exact nn2 (by have:=hq.t1; omega) (h.tri0 (by omega) (by omega) (by omega)) hq.t0 (h.tri0 (by omega) (by omega) (by omega))
 exact pos2l (by have:=hp.t1; omega) f1 hp.t0 f2
theorem arc_end (h:Cvx l) (hp:OnH p (cor l a) (cor l (a+1)) D s) (hq:OnH q (cor l (a+m)) (cor l (a+m+1)) E t) (hm:1≤m) (hn:m < l.length) (h3:3≤l.length) (hs:0 < s) (ht:m=1→0 < t):0 < sideZ p q (cor l (a+l.length)):=by
 refine pos_of hp.pos ?_
 rw [side_pc hp]
 have f1:0≤sideZ (cor l a) q (cor l (a+l.length)):=by rw [cor_add,side_same3]; omega
 have f2:0 < sideZ (cor l (a+1)) q (cor l (a+l.length)):=by
  refine pos_of hq.pos ?_
  rw [side_qc hq]
  by_cases h1:m=1
  ·exact pos2r (by have:=hq.t1; omega) (h.tri0 (by omega) (by omega) (by omega)) (ht h1) (h.tri3 (by omega) (by omega) (by omega))
  ·exact pos2l (by have:=hq.t1; omega) (h.tri3 (by omega) (by omega) (by omega)) hq.t0 (h.tri0 (by omega) (by omega) (by omega))
 exact pos2r (by have:=hp.t1; omega) f1 hs f2
theorem arc_neg (h:Cvx l) (hp:OnH p (cor l a) (cor l (a+1)) D s) (hq:OnH q (cor l (a+m)) (cor l (a+m+1)) E t) (hn:m < l.length) {k:Nat} (h1:1≤k) (h2:k≤m):sideZ p q (cor l (a+k))≤0:=by
 refine nonpos_of hp.pos ?_
 rw [side_pc hp]
 have hs:∀ i j:Nat,i≤a+k→a+k≤j→j≤i+l.length→sideZ (cor l i) (cor l j) (cor l (a+k))≤0:=fun i j c1 c2 c3=>by
  rw [side_swap]
  have:=h.tri0 (i:=i) (j:=a+k) (k:=j) c1 c2 c3
  omega
 have f:∀ i:Nat,i=a∨i=a+1→sideZ (cor l i) q (cor l (a+k))≤0:=fun i hi=>by
  refine nonpos_of hq.pos ?_
  rw [side_qc hq]
  exact np2 (by have:=hq.t1; omega) (hs _ _ (by omega) (by omega) (by omega)) hq.t0 (hs _ _ (by omega) (by omega) (by omega))
 exact np2 (by have:=hp.t1; omega) (f a (.inl rfl)) hp.t0 (f (a+1) (.inr rfl))
theorem edge_zero (h:Cvx l) (h3:3≤l.length) {i:Nat} {k:Nat} (hk:k < l.length) (hq:OnH q (cor l (i+k)) (cor l (i+k+1)) E t) (h0:sideZ (cor l i) (cor l (i+1)) q=0):k=0∨(k=1∧t=0):=by
 have hl:=hq.lin (cor l i) (cor l (i+1))
 rw [h0,Int.mul_zero] at hl
 have a1:=hq.t0
 have a2:=hq.t1
 by_cases c0:k=0
 ·exact .inl c0
 ·by_cases c1:k=1
  ·subst c1
   refine .inr ⟨rfl,?_⟩
   rw [side_same2,Int.mul_zero,Int.zero_add] at hl
   have:=h.tri3 (i:=i) (j:=i+1) (k:=i+1+1) (by omega) (by omega) (by omega)
   rcases Int.mul_eq_zero.1 hl.symm with h5 | h5
   ·exact h5
   ·omega
  ·exfalso
   have:=h.tri3 (i:=i) (j:=i+1) (k:=i+k) (by omega) (by omega) (by omega)
   have g2:=h.tri0 (i:=i) (j:=i+1) (k:=i+k+1) (by omega) (by omega) (by omega)
   have:=pos2l (a:=E - t) (c:=t) (by omega) this a1 g2
   omega
end
end Go.Stn
namespace Go.Stn
open Go Go.K Go.RowKit
theorem edgesL_get {l:List Pt} {i:Nat} (h:i < l.length):(edgesL l)[i]?=some (cor l i,cor l (i+1)):=by
 unfold edgesL
 rw [List.getElem?_map,List.getElem?_range h]
 simp only [Option.map_some]
 rw [ptAt_cor h,atL_cor (i:=(i:Int)+1) (n:=i+1+l.length) (by omega),cor_add]
theorem sq_nn (a:Int):0≤a*a:=by
 rcases Int.le_total 0 a with h | h
 ·exact Int.mul_nonneg h h
 ·have:=Int.mul_nonneg (show 0≤-a by omega) (show 0≤-a by omega)
  rw [Int.neg_mul_neg] at this
  exact this
theorem sq_lt {a b:Int} (h:a*a < b*b) (hb:0≤b):a < b:=Classical.byContradiction fun hn=>by
 have:b*b≤a*a:=Int.mul_le_mul (by omega) (by omega) hb (by omega)
 omega
theorem mul_zero_of {a b:Int} (h:0 < a) (hz:a*b=0):b=0:=by
 rcases Int.mul_eq_zero.1 hz with h1 | h1
 ·omega
 ·exact h1
theorem le_of_mul {a b c:Int} (h:0 < a) (hz:a*b≤a*c):b≤c:=Int.le_of_mul_le_mul_left hz h
theorem onH_id (a b x:Pt):dotZ (subZ b a) (subZ b a)*(x.x - a.x)=dotZ (subZ x a) (subZ b a)*(b.x - a.x) - (b.z - a.z)*sideZ a b x ∧
  dotZ (subZ b a) (subZ b a)*(x.z - a.z)=dotZ (subZ x a) (subZ b a)*(b.z - a.z)+(b.x - a.x)*sideZ a b x:=by
 unfold dotZ subZ sideZ
 dsimp only
 constructor <;> grind
theorem lagrange (a b x:Pt):dotZ (subZ x a) (subZ b a)*dotZ (subZ x a) (subZ b a)=dotZ (subZ x a) (subZ x a)*dotZ (subZ b a) (subZ b a) - sideZ a b x*sideZ a b x:=by
 unfold dotZ subZ sideZ
 dsimp only
 grind
theorem dot_pos {a b:Pt} (h:a≠b):0 < dotZ (subZ b a) (subZ b a):=by
 unfold dotZ subZ
 dsimp only
 have h1:=sq_nn (b.x - a.x)
 have h2:=sq_nn (b.z - a.z)
 rcases Int.lt_or_eq_of_le (Int.add_nonneg h1 h2) with h3 | h3
 ·exact h3
 ·exfalso
  have e1:(b.x - a.x)*(b.x - a.x)=0:=by omega
  have e2:(b.z - a.z)*(b.z - a.z)=0:=by omega
  have e1:b.x - a.x=0:=by rcases Int.mul_eq_zero.1 e1 with h | h <;> exact h
  have e2:b.z - a.z=0:=by rcases Int.mul_eq_zero.1 e2 with h | h <;> exact h
  apply h
  cases a; cases b
  simp only [Pt.mk.injEq]
  dsimp only at *
  omega
def OnS (x a b:Pt):Prop:=∃ D t,OnH x a b D t
theorem onS_of {a b x:Pt} (h0:sideZ a b x=0) (h1:0≤dotZ (subZ x a) (subZ b a)) (h2:dotZ (subZ x a) (subZ b a) < dotZ (subZ b a) (subZ b a)):OnS x a b:=by
 obtain⟨e1,e2⟩:=onH_id a b x
 rw [h0] at e1 e2
 exact⟨_,_,by omega,h1,h2,by rw [e1]; omega,by rw [e2]; omega⟩
theorem onS_dot {a b x:Pt} {D t:Int} (h:OnH x a b D t):D*dotZ (subZ x a) (subZ b a)=t*dotZ (subZ b a) (subZ b a)∧D*(D*dotZ (subZ x a) (subZ x a))=t*t*dotZ (subZ b a) (subZ b a):=by
 have e1:=h.ex
 have e2:=h.ez
 unfold dotZ subZ
 dsimp only
 generalize x.x - a.x=u at *
 generalize x.z - a.z=v at *
 generalize b.x - a.x=d at *
 generalize b.z - a.z=f at *
 constructor
 ·calc D*(u*d+v*f)=(D*u)*d+(D*v)*f:=by grind
   _=_:=by rw [e1,e2]; grind
 ·calc D*(D*(u*u+v*v))=(D*u)*(D*u)+(D*v)*(D*v):=by grind
   _=_:=by rw [e1,e2]; grind
theorem onS_side {a b x:Pt} {D t:Int} (h:OnH x a b D t):sideZ a b x=0:=by
 have:=h.lin a b
 rw [side_same3,side_same2,Int.mul_zero,Int.mul_zero,Int.add_zero] at this
 exact mul_zero_of h.pos this
theorem onE_iff {a b x:Pt} (ha:farB a=false) (hb:farB b=false) (hx:farB x=false) (hab:a≠b):onE x (a,b)=true↔OnS x a b:=by
 have i1:inR 2000 a:=by have:=far_in ha; unfold inR; omega
 have i2:inR 2000 b:=by have:=far_in hb; unfold inR; omega
 have i3:inR 2000 x:=by have:=far_in hx; unfold inR; omega
 have hd:=dot_pos hab
 unfold onE
 dsimp only
 rw [subW_eq (by omega) i2 i1,subW_eq (by omega) i3 i1]
 have j1:=subZ_in i2 i1
 have j2:=subZ_in i3 i1
 rw [crossW_eq (by omega) (by omega) j1 j2,dotW_eq (by omega) (by omega) j2 j1,dotW_eq (by omega) (by omega) j2 j2,dotW_eq (by omega) (by omega) j1 j1]
 have hc:crossZ (subZ b a) (subZ x a)=sideZ a b x:=by
  unfold crossZ subZ sideZ
  dsimp only
 rw [hc]
 simp only [Bool.and_eq_true,decide_eq_true_eq]
 constructor
 ·rintro ⟨⟨h0,h1⟩,h2⟩
  refine onS_of h0 h1 (sq_lt ?_ (by omega))
  have hl:=lagrange a b x
  rw [h0] at hl
  have:=Int.mul_lt_mul_of_pos_right h2 hd
  omega
 ·rintro ⟨D,t,h⟩
  obtain⟨e1,e2⟩:=onS_dot h
  refine⟨⟨onS_side h,?_⟩,?_⟩
  ·refine nonneg_of h.pos ?_
   rw [e1]
   exact Int.mul_nonneg h.t0 (by omega)
  ·have hp:=h.pos
   refine Classical.byContradiction fun hn=>?_
   have a1:D*D*dotZ (subZ b a) (subZ b a)≤D*(D*dotZ (subZ x a) (subZ x a)):=by
    rw [Int.mul_assoc]
    exact Int.mul_le_mul_of_nonneg_left (Int.mul_le_mul_of_nonneg_left (by omega) (by omega)) (by omega)
   rw [e2] at a1
   have a2:t*t < D*D:=by
    have:=Int.mul_le_mul (show t≤D - 1 by have:=h.t1; omega) (show t≤D - 1 by have:=h.t1; omega) h.t0 (by omega)
    have h3:(D - 1)*(D - 1)=D*D - D - D+1:=by grind
    omega
   have:=Int.mul_lt_mul_of_pos_right a2 hd
   omega
theorem between1 {u d:Int} (h1:min 0 d≤u) (h2:u≤max 0 d):0≤u*d∧u*d≤d*d:=by
 rcases Int.le_total 0 d with h | h
 ·exact⟨Int.mul_nonneg (by omega) h,Int.mul_le_mul_of_nonneg_right (by omega) h⟩
 ·have a:=Int.mul_nonneg (show 0≤-u by omega) (show 0≤-d by omega)
  have b:=Int.mul_le_mul_of_nonneg_right (show -u≤-d by omega) (show 0≤-d by omega)
  rw [Int.neg_mul_neg] at a b
  rw [Int.neg_mul_neg] at b
  exact⟨a,b⟩
theorem between2 {D t u d:Int} (hD:0 < D) (h0:0≤t) (h1:t≤D) (h:D*u=t*d):min 0 d≤u∧u≤max 0 d:=by
 rcases Int.le_total 0 d with hd | hd
 ·have a:0≤u:=nonneg_of hD (by rw [h]; exact Int.mul_nonneg h0 hd)
  have b:u≤d:=le_of_mul hD (by rw [h]; exact Int.mul_le_mul_of_nonneg_right h1 hd)
  omega
 ·have a:u≤0:=nonpos_of hD (by rw [h]; exact Int.mul_nonpos_of_nonneg_of_nonpos h0 hd)
  have b:d≤u:=le_of_mul hD (by rw [h]; exact Int.mul_le_mul_of_nonpos_right h1 hd)
  omega
theorem ron_iff {a b x:Pt} (ha:farB a=false) (hb:farB b=false) (hx:farB x=false) (hab:a≠b):ronB a b x=true↔OnS x a b∨x=b:=by
 have i1:inR 2000 a:=by have:=far_in ha; unfold inR; omega
 have i2:inR 2000 b:=by have:=far_in hb; unfold inR; omega
 have i3:inR 2000 x:=by have:=far_in hx; unfold inR; omega
 have hd:=dot_pos hab
 unfold ronB
 rw [sideW_eq (by omega) i1 i2 i3]
 simp only [Bool.and_eq_true,decide_eq_true_eq]
 constructor
 ·rintro ⟨⟨h0,h1,h2⟩,h3,h4⟩
  obtain⟨c1,c2⟩:=between1 (u:=x.x - a.x) (d:=b.x - a.x) (by omega) (by omega)
  obtain⟨c3,c4⟩:=between1 (u:=x.z - a.z) (d:=b.z - a.z) (by omega) (by omega)
  have d1:0≤dotZ (subZ x a) (subZ b a):=by
   unfold dotZ subZ; dsimp only; omega
  have d2:dotZ (subZ x a) (subZ b a)≤dotZ (subZ b a) (subZ b a):=by
   unfold dotZ subZ; dsimp only; omega
  rcases Int.lt_or_eq_of_le d2 with d3 | d3
  ·exact .inl (onS_of h0 d1 d3)
  ·refine .inr ?_
   obtain⟨e1,e2⟩:=onH_id a b x
   rw [h0,d3,Int.mul_zero] at e1 e2
   have f1:=Int.eq_of_mul_eq_mul_left (by omega) (show dotZ (subZ b a) (subZ b a)*(x.x - a.x)=dotZ (subZ b a) (subZ b a)*(b.x - a.x) by omega)
   have f2:=Int.eq_of_mul_eq_mul_left (by omega) (show dotZ (subZ b a) (subZ b a)*(x.z - a.z)=dotZ (subZ b a) (subZ b a)*(b.z - a.z) by omega)
   cases x; cases b
   simp only [Pt.mk.injEq]
   dsimp only at *
   omega
 ·rintro (⟨D,t,h⟩ | rfl)
  ·obtain⟨c1,c2⟩:=between2 h.pos h.t0 (by have:=h.t1; omega) h.ex
   obtain⟨c3,c4⟩:=between2 h.pos h.t0 (by have:=h.t1; omega) h.ez
   exact⟨⟨onS_side h,by omega,by omega⟩,by omega,by omega⟩
  ·rw [side_same2]
   omega
structure Good (l:List Pt):Prop where
 near:Near l
 cvx:Cvx l
 len:3≤l.length
section
variable {l:List Pt} (g:Good l)
include g
theorem Good.far (i:Nat):farB (cor l i)=false:=g.near _ (cor_mem (by have:=g.len; omega) i)
theorem Good.ne (i:Nat):cor l i≠cor l (i+1):=fun h=>by
 have:=g.cvx.edge i 2 (by omega) (by have:=g.len; omega)
 rw [h,side_same1] at this
 omega
abbrev BP (l:List Pt) (x:Pt) (i:Nat):Prop:=OnS x (cor l i) (cor l (i+1))
omit g in
theorem BP.congr {x:Pt} {i j:Nat} (h:BP l x i) (hij:i % l.length=j % l.length):BP l x j:=by
 have e1:cor l i=cor l j:=cor_congr hij
 have e2:cor l (i+1)=cor l (j+1):=cor_congr (by rw [←Nat.mod_add_mod,hij,Nat.mod_add_mod])
 unfold BP at *
 rw [←e1,←e2]
 exact h
theorem Good.zero {x:Pt} {i k:Nat} (hk:k < l.length) (h:BP l x (i+k)) (h0:sideZ (cor l i) (cor l (i+1)) x=0):k=0∨(k=1∧x=cor l (i+1)):=by
 obtain⟨D,t,h⟩:=h
 rcases edge_zero g.cvx g.len hk h h0 with h1 | ⟨h1,h2⟩
 ·exact .inl h1
 ·subst h1; subst h2; exact .inr ⟨rfl,h.start⟩
omit g in
theorem off_mod {n i j:Nat} (hi:i < n) (_:j < n):j % n=(i+(if i≤j then j - i else j+n - i)) % n:=by
 split
 ·rw [show i+(j - i)=j from by omega]
 ·rw [show i+(j+n - i)=j+n from by omega,Nat.add_mod_right]
theorem Good.uniq {x:Pt} {i j:Nat} (hi:i < l.length) (hj:j < l.length) (h1:BP l x i) (h2:BP l x j):i=j:=by
 have s1:sideZ (cor l i) (cor l (i+1)) x=0:=by obtain⟨D,t,h⟩:=h1; exact onS_side h
 have s2:sideZ (cor l j) (cor l (j+1)) x=0:=by obtain⟨D,t,h⟩:=h2; exact onS_side h
 have a:=g.zero (by split <;> omega) (h2.congr (off_mod hi hj)) s1
 have b:=g.zero (by split <;> omega) (h1.congr (off_mod hj hi)) s2
 have:=g.len
 rcases a with a | ⟨a,_⟩ <;> rcases b with b | ⟨b,_⟩ <;> (split at a <;> split at b <;> omega)
theorem Good.edge {x:Pt} (h:0≤edgeI l x):∃ i:Nat,edgeI l x=(i:Int)∧i < l.length∧BP l x i∧farB x=false:=by
 have hf:farB x=false:=by
  cases hf:farB x with
  | false=>rfl
  | true=>rw [edgeI,if_pos hf] at h; omega
 have hl:=(edge_lt (l:=l) (x:=x)).1
 rw [edgeI,if_neg (by rw [hf]; exact Bool.false_ne_true)] at h hl ⊢
 unfold findI at h hl ⊢
 split at h
 ·rename_i ha
  rw [if_pos ha] at hl
  rw [if_pos ha]
  refine⟨_,rfl,by omega,?_,hf⟩
  have hlt:(edgesL l).findIdx (onE x) < (edgesL l).length:=List.findIdx_lt_length_of_exists (by simpa using ha)
  have hp:onE x (edgesL l)[(edgesL l).findIdx (onE x)]=true:=List.findIdx_getElem
  have hg:=edgesL_get (l:=l) (i:=(edgesL l).findIdx (onE x)) (by omega)
  have he:(edgesL l)[(edgesL l).findIdx (onE x)]=(cor l ((edgesL l).findIdx (onE x)),cor l ((edgesL l).findIdx (onE x)+1)):=(List.getElem?_eq_some_iff.1 hg).2
  rw [he] at hp
  exact(onE_iff (g.far _) (g.far _) hf (g.ne _)).1 hp
 ·omega
theorem Good.edge_at {x:Pt} {i:Nat} (hf:farB x=false) (hi:i < l.length) (h:BP l x i):edgeI l x=(i:Int):=by
 rw [edgeI,if_neg (by rw [hf]; exact Bool.false_ne_true)]
 refine findI_at (edgesL_get hi) (fun j y hj hy=>?_) ((onE_iff (g.far _) (g.far _) hf (g.ne _)).2 h)
 rw [edgesL_get (by omega)] at hy
 cases hy
 cases ho:onE x (cor l j,cor l (j+1)) with
 | false=>rfl
 | true=>
  have:=g.uniq hi (by omega) h ((onE_iff (g.far _) (g.far _) hf (g.ne _)).1 ho)
  omega
omit g in
theorem corners {i:Nat} (hi:i < l.length):ptAt l (i:Int)=cor l i∧nextL l (i:Int)=cor l (i+1):=⟨ptAt_cor hi,nextL_cor i⟩
theorem Good.border {x:Pt}:rbordB l x=decide (0≤edgeI l x):=by
 rw [Bool.eq_iff_iff,decide_eq_true_eq]
 constructor
 ·intro h
  unfold rbordB rbordN at h
  rw [Bool.and_eq_true,Bool.not_eq_true',Bool.not_eq_true'] at h
  obtain⟨hf,ha⟩:=h
  have hex:∃ i,i < l.length∧ronB (ptAt l (i:Nat)) (nextL l (i:Nat)) x=true:=Classical.byContradiction fun hn=>by
   rw [allI_true (fun i hi=>?_)] at ha
   ·cases ha
   ·cases hr:ronB (ptAt l (i:Nat)) (nextL l (i:Nat)) x with
    | false=>rfl
    | true=>exact absurd ⟨i,hi,hr⟩ hn
  obtain⟨i,hi,hr⟩:=hex
  rw [(corners hi).1,(corners hi).2,ron_iff (g.far _) (g.far _) hf (g.ne _)] at hr
  rcases hr with hr | hr
  ·rw [g.edge_at hf hi hr]; omega
  ·have hlt:(i+1) % l.length < l.length:=Nat.mod_lt _ (by omega)
   have:BP l x (i+1):=⟨1,0,by rw [hr]; exact OnH.at 1 (by omega)⟩
   rw [g.edge_at hf hlt (this.congr (Nat.mod_mod _ _).symm)]; omega
 ·intro h
  obtain⟨i,_,hi,hb,hf⟩:=g.edge h
  refine rbord_yes (i:=(i:Int)) hf (by omega) (by omega) ?_
  rw [(corners hi).1,(corners hi).2,ron_iff (g.far _) (g.far _) hf (g.ne _)]
  exact .inl hb
theorem Good.line {x:Pt} {a i:Nat} (hf:farB x=false) (ha:a < l.length) (hb:BP l x a) (hi:i < l.length):sideZ (cor l i) (cor l (i+1)) x=0↔ronB (cor l i) (cor l (i+1)) x=true:=by
 rw [ron_iff (g.far _) (g.far _) hf (g.ne _)]
 constructor
 ·intro h0
  rcases g.zero (by split <;> omega) (hb.congr (off_mod hi ha)) h0 with h1 | ⟨_,h2⟩
  ·have:a=i:=by split at h1 <;> omega
   subst this; exact .inl hb
  ·exact .inr h2
 ·rintro (⟨D,t,h⟩ | rfl)
  ·exact onS_side h
  ·rw [side_same2]
theorem Good.apart {p q:Pt} (hp:0≤edgeI l p) (hq:0≤edgeI l q):apartB l p q=rapartB l p q:=by
 obtain⟨a,_,ha,hbp,hfp⟩:=g.edge hp
 obtain⟨b,_,hb,hbq,hfq⟩:=g.edge hq
 have i1:inR 2000 p:=by have:=far_in hfp; unfold inR; omega
 have i2:inR 2000 q:=by have:=far_in hfq; unfold inR; omega
 have ic:∀ i,inR 2000 (cor l i):=fun i=>by have:=far_in (g.far i); unfold inR; omega
 have key:∀ i,i < l.length→both0 p q (cor l i,cor l (i+1))=rboth l p q (i:Nat):=fun i hi=>by
  unfold both0 rboth
  rw [(corners hi).1,(corners hi).2,Bool.eq_iff_iff]
  simp only [Bool.and_eq_true,decide_eq_true_eq]
  rw [turnW_eq (by omega) (ic _) (ic _) i1,turnW_eq (by omega) (ic _) (ic _) i2,g.line hfp ha hbp hi,g.line hfq hb hbq hi]
 unfold apartB rapartB
 rw [Bool.eq_iff_iff,Bool.not_eq_true',allI_iff,List.any_eq_false]
 constructor
 ·intro h i hi
  have:=h _ (List.mem_of_getElem? (edgesL_get hi))
  rw [key i hi] at this
  simpa using this
 ·intro h e he
  obtain⟨j,hj,rfl⟩:=List.getElem_of_mem he
  rw [edges_len'] at hj
  have hg:=(List.getElem?_eq_some_iff.1 (edgesL_get hj)).2
  rw [hg,key j hj]
  simpa using h j hj
end
end Go.Stn
namespace Go.Stn
open Go Go.K Go.RowKit
section
variable {l:List Pt} (g:Good l)
include g
structure Cut (l:List Pt) (p q:Pt) (a m:Nat) (D s E t:Int):Prop where
 fp:farB p=false
 fq:farB q=false
 ha:a < l.length
 hp:OnH p (cor l a) (cor l (a+1)) D s
 hq:OnH q (cor l (a+m)) (cor l (a+m+1)) E t
 m1:1≤m
 mn:m < l.length
 hs:m+1=l.length→0 < s
 ht:m=1→0 < t
 ep:edgeI l p=(a:Int)
 eq:edgeI l q=(((a+m) % l.length:Nat):Int)
theorem Good.cut {p q:Pt} (hp:0≤edgeI l p) (hq:0≤edgeI l q) (hap:apartB l p q=true):∃ a m D s E t,Cut l p q a m D s E t:=by
 have hr:=hap
 rw [g.apart hp hq] at hr
 obtain⟨a,ea,ha,hbp,hfp⟩:=g.edge hp
 obtain⟨b,eb,hb,hbq,hfq⟩:=g.edge hq
 have hbq':=hbq.congr (off_mod ha hb)
 have hm:(if a≤b then b - a else b+l.length - a) < l.length:=by split <;> omega
 have hmod:=off_mod ha hb
 generalize hmm:(if a≤b then b - a else b+l.length - a)=m at *
 have no:∀ i,i < l.length→¬ (ronB (cor l i) (cor l (i+1)) p=true∧ronB (cor l i) (cor l (i+1)) q=true):=fun i hi hh=>by
  unfold rapartB at hr
  have:=allI_iff.1 hr i hi
  unfold rboth at this
  rw [(corners hi).1,(corners hi).2,hh.1,hh.2] at this
  cases this
 have r1:ronB (cor l a) (cor l (a+1)) p=true:=(ron_iff (g.far _) (g.far _) hfp (g.ne _)).2 (.inl hbp)
 have r2:ronB (cor l b) (cor l (b+1)) q=true:=(ron_iff (g.far _) (g.far _) hfq (g.ne _)).2 (.inl hbq)
 obtain⟨D,s,kp⟩:=hbp
 obtain⟨E,t,kq⟩:=hbq'
 have hm0:m≠0:=fun h0=>by
  have:a=b:=by split at hmm <;> omega
  subst this
  exact no a ha ⟨r1,r2⟩
 refine⟨a,m,D,s,E,t,hfp,hfq,ha,kp,kq,by omega,hm,fun hlast=>?_,fun h1=>?_,ea,?_⟩
 ·have h0:=kp.t0
  rcases Int.lt_or_eq_of_le h0 with h | h
  ·exact h
  ·exfalso
   subst h
   have hpa:=kp.start
   have hba:cor l (b+1)=cor l a:=by
    apply cor_congr
    rw [←Nat.mod_add_mod,hmod,Nat.mod_add_mod,show a+m+1=a+l.length from by omega,Nat.add_mod_right]
   exact no b hb ⟨(ron_iff (g.far _) (g.far _) hfp (g.ne _)).2 (.inr (by rw [hba]; exact hpa)),r2⟩
 ·have h0:=kq.t0
  rcases Int.lt_or_eq_of_le h0 with h | h
  ·exact h
  ·exfalso
   subst h; subst h1
   exact no a ha ⟨r1,(ron_iff (g.far _) (g.far _) hfq (g.ne _)).2 (.inr kq.start)⟩
 ·rw [eb,←hmod,Nat.mod_eq_of_lt hb]
variable {p q:Pt} {a m:Nat} {D s E t:Int} (c:Cut l p q a m D s E t)
include c
theorem Good.left (k:Nat) (h1:m < k) (h2:k < l.length∨(k=l.length∧0 < s)):0 < sideZ p q (cor l (a+k)):=by
 rcases h2 with h2 | ⟨rfl,h2⟩
 ·exact arc_pos g.cvx c.hp c.hq c.m1 h1 h2
 ·exact arc_end g.cvx c.hp c.hq c.m1 c.mn g.len h2 c.ht
theorem Good.notleft (k:Nat) (h1:1≤k) (h2:k≤m):sideZ p q (cor l (a+k))≤0:=arc_neg g.cvx c.hp c.hq c.mn h1 h2
omit g in
theorem Cut.first (h:s=0):cor l (a+l.length)=p:=by
 have:=c.hp
 rw [h] at this
 rw [cor_add]
 exact this.start.symm
theorem Good.side (i:Nat):sideW p q (cor l i)=sideZ p q (cor l i):=by
 have i1:inR 2000 p:=by have:=far_in c.fp; unfold inR; omega
 have i2:inR 2000 q:=by have:=far_in c.fq; unfold inR; omega
 have ic:inR 2000 (cor l i):=by have:=far_in (g.far i); unfold inR; omega
 exact sideW_eq (by omega) i1 i2 ic
def arcL (l:List Pt) (p q:Pt) (a m:Nat):List Pt:=((List.range (l.length - m)).map fun j=>cor l (a+m+1+j)).filter fun c=>decide (0 < sideW p q c)
theorem Good.rn:∀ (k j:Nat),j+k+m=l.length→rightN l p k (((a+m) % l.length:Nat)+1+(j:Int))=(((List.range k).map fun i=>cor l (a+m+1+j+i)).filter fun c=>decide (0 < sideW p q c))++[p]
 | 0,j,_=>rfl
 | k+1,j,hk=>by
  have hat:atL l (((a+m) % l.length:Nat)+1+(j:Int))=cor l (a+m+1+j):=by
   rw [atL_cor (n:=(a+m) % l.length+(1+j)+l.length) (by omega),cor_add,cor_add_mod]
   congr 1
   omega
  have hcor:cor l (a+m+1+j)=cor l (a+(m+1+j)):=by congr 1; omega
  have hrec:=Good.rn k (j+1) (by omega)
  rw [show(((a+m) % l.length:Nat):Int)+1+((j+1:Nat):Int)=(((a+m) % l.length:Nat):Int)+1+(j:Int)+1 from by omega] at hrec
  have hmap:(List.range (k+1)).map (fun i=>cor l (a+m+1+j+i))=cor l (a+m+1+j) :: (List.range k).map (fun i=>cor l (a+m+1+(j+1)+i)):=by
   rw [List.range_succ_eq_map,List.map_cons,List.map_map]
   congr 1
   apply List.map_congr_left
   intro i _
   show cor l (a+m+1+j+(i+1))=_
   congr 1
   omega
  unfold rightN
  rw [hat,hmap]
  by_cases hlast:m+1+j=l.length∧s=0
  ·have hk0:k=0:=by omega
   subst hk0
   have he:cor l (a+m+1+j)=p:=by rw [hcor,hlast.1]; exact c.first hlast.2
   rw [he,if_pos (eqB_iff.2 rfl)]
   have hz:¬ 0 < sideW p q p:=by
    have:=g.side c (a+l.length)
    rw [c.first hlast.2,side_same3] at this
    omega
   simp [hz]
  ·have hpos:0 < sideW p q (cor l (a+m+1+j)):=by
    rw [g.side c,hcor]
    refine g.left c _ (by omega) ?_
    by_cases h:m+1+j=l.length
    ·refine .inr ⟨h,?_⟩
     have:=c.hp.t0
     have:s≠0:=fun h0=>hlast ⟨h,h0⟩
     omega
    ·exact .inl (by omega)
   have hne:¬ eqB (cor l (a+m+1+j)) p=true:=fun he=>by
    have:=eqB_iff.1 he
    rw [g.side c,this,side_same3] at hpos
    omega
   rw [if_neg hne,hrec]
   simp [hpos]
omit g in
theorem Cut.rt:rightT l q p=l.length - m:=by
 have:=c.ha
 have:=c.mn
 have:=c.m1
 have hlt:=Nat.mod_lt (a+m) (show l.length > 0 by omega)
 unfold rightT
 rw [c.ep,c.eq]
 rcases Nat.lt_or_ge (a+m) l.length with h | h
 ·rw [Nat.mod_eq_of_lt h,if_neg (by omega)]; omega
 ·rw [Nat.mod_eq_sub_mod h,Nat.mod_eq_of_lt (by omega),if_pos (by omega)]; omega
theorem Good.rl:rightL l q p=q :: (arcL l p q a m++[p]):=by
 unfold rightL arcL
 rw [c.rt,c.eq]
 have:=g.rn c (l.length - m) 0 (by have:=c.mn; omega)
 rw [show(((a+m) % l.length:Nat):Int)+1+((0:Nat):Int)=(((a+m) % l.length:Nat):Int)+1 from by omega] at this
 rw [this]
omit g in
theorem Cut.mod (i:Nat):i % l.length=(a+(m+1+(i+(l.length - (a+m+1) % l.length)) % l.length)) % l.length:=by
 have hn:0 < l.length:=by have:=c.mn; omega
 have:=Nat.mod_lt (a+m+1) hn
 rw [show a+(m+1+(i+(l.length - (a+m+1) % l.length)) % l.length)=(a+m+1)+(i+(l.length - (a+m+1) % l.length)) % l.length from by omega,Nat.add_mod_mod,←Nat.mod_add_mod,
  show(a+m+1) % l.length+(i+(l.length - (a+m+1) % l.length))=i+l.length from by omega,Nat.add_mod_right]
theorem Good.fr:fromN l p q l.length=(((a+m+1) % l.length:Nat):Int):=by
 have hn:0 < l.length:=by have:=c.mn; omega
 have m1:=c.m1
 have mn:=c.mn
 have hlt:=Nat.mod_lt (a+m+1) hn
 have test:∀ i:Nat,i < l.length→(leftC l p q (i:Int)=true↔i=(a+m+1) % l.length):=fun i hi=>by
  have e1:ptAt l (i:Int)=cor l i:=ptAt_cor hi
  have e2:((i:Int)+(l.length:Int) - 1).tmod (l.length:Int)=(((i+l.length - 1) % l.length:Nat):Int):=by
   rw [show(i:Int)+(l.length:Int) - 1=((i+l.length - 1:Nat):Int) from by omega]; rfl
  have e3:ptAt l (((i+l.length - 1) % l.length:Nat):Int)=cor l (i+l.length - 1):=by
   rw [ptAt_cor (Nat.mod_lt _ hn),cor_mod]
  unfold leftC
  rw [e1,e2,e3,g.side c,g.side c,Bool.and_eq_true,decide_eq_true_eq,decide_eq_true_eq]
  have hmod:=c.mod i
  have hr:=Nat.mod_lt (i+(l.length - (a+m+1) % l.length)) hn
  have hzero:(i+(l.length - (a+m+1) % l.length)) % l.length=0↔i=(a+m+1) % l.length:=by
   rcases Nat.lt_or_ge i ((a+m+1) % l.length) with h | h
   ·rw [Nat.mod_eq_of_lt (by omega)]; omega
   ·rw [Nat.mod_eq_sub_mod (by omega),Nat.mod_eq_of_lt (by omega)]; omega
  rw [←hzero]
  generalize (i+(l.length - (a+m+1) % l.length)) % l.length=r at *
  have c1:cor l i=cor l (a+(m+1+r)):=cor_congr hmod
  have c2:cor l (i+l.length - 1)=cor l (a+(m+r)):=by
   apply cor_congr
   have e:(i+l.length - 1+1) % l.length=(a+(m+r)+1) % l.length:=by
    rw [show i+l.length - 1+1=i+l.length from by omega,Nat.add_mod_right,hmod]; congr 1; omega
   have e':=congrArg (fun x=>(x+(l.length - 1)) % l.length) e
   simp only [Nat.mod_add_mod] at e'
   rw [show i+l.length - 1+1+(l.length - 1)=i+l.length - 1+l.length from by omega,Nat.add_mod_right,show a+(m+r)+1+(l.length - 1)=a+(m+r)+l.length from by omega,Nat.add_mod_right] at e'
   exact e'
  rw [c1,c2]
  constructor
  ·rintro ⟨h1,h2⟩
   refine Classical.byContradiction fun hr0=>?_
   by_cases hb:m+1+r≤l.length
   ·have:=g.left c (m+r) (by omega) (.inl (by omega))
    omega
   ·have:=g.notleft c (m+1+r - l.length) (by omega) (by omega)
    rw [show a+(m+1+r)=a+(m+1+r - l.length)+l.length from by omega,cor_add] at h1
    omega
  ·intro h0
   subst h0
   refine⟨g.left c _ (by omega) ?_,g.notleft c _ (by omega) (by omega)⟩
   by_cases h:m+1=l.length
   ·exact .inr ⟨h,c.hs h⟩
   ·exact .inl (by omega)
 have key:∀ n,n≤l.length→(a+m+1) % l.length < n→fromN l p q n=(((a+m+1) % l.length:Nat):Int):=by
  intro n
  induction n with
  | zero=>intro _ h; omega
  | succ n ih=>
   intro h1 h2
   unfold fromN
   by_cases h:n=(a+m+1) % l.length
   ·rw [if_pos ((test n (by omega)).2 h),h]
   ·rw [if_neg (fun hc=>h ((test n (by omega)).1 hc))]
    exact ih (by omega) (by omega)
 exact key _ (Nat.le_refl _) hlt
theorem Good.ll:leftL l p q=p :: q :: arcL l p q a m:=by
 have m1:=c.m1
 have mn:=c.mn
 unfold leftL leftO arcL
 rw [g.fr c]
 congr 2
 have hpt:∀ j:Nat,leftP l (((a+m+1) % l.length:Nat):Int) (j:Int)=cor l (a+m+1+j):=fun j=>by
  unfold leftP
  rw [show((((a+m+1) % l.length:Nat):Int)+(j:Int)).tmod (l.length:Int)=((((a+m+1) % l.length+j) % l.length:Nat):Int) from rfl,ptAt_cor (Nat.mod_lt _ (by omega)),cor_mod,cor_add_mod]
 rw [List.map_congr_left (g:=fun j=>cor l (a+m+1+j)) (fun j _=>hpt j)]
 have hsplit:List.range l.length=List.range (l.length - m)++(List.range m).map (fun j=>l.length - m+j):=by
  rw [←List.range_add]; congr 1; omega
 rw [hsplit,List.map_append,List.filter_append,List.map_map]
 have hnil:(((List.range m).map ((fun j=>cor l (a+m+1+j)) ∘ fun j=>l.length - m+j)).filter fun c=>decide (0 < sideW p q c))=[]:=by
  rw [List.filter_eq_nil_iff]
  intro x hx
  obtain⟨j,hj,rfl⟩:=List.mem_map.1 hx
  rw [List.mem_range] at hj
  have:=g.notleft c (j+1) (by omega) (by omega)
  show ¬ decide (0 < sideW p q (cor l (a+m+1+(l.length - m+j))))=true
  rw [g.side c,show a+m+1+(l.length - m+j)=a+(j+1)+l.length from by omega,cor_add,decide_eq_true_eq]
  omega
 rw [hnil,List.append_nil]
theorem Good.nodup:(p :: q :: arcL l p q a m).Nodup:=by
 have mn:=c.mn
 have hside:∀ x∈arcL l p q a m,0 < sideZ p q x:=fun x hx=>by
  obtain⟨h1,h2⟩:=List.mem_filter.1 hx
  obtain⟨j,_,rfl⟩:=List.mem_map.1 h1
  rw [decide_eq_true_eq,g.side c] at h2
  exact h2
 have hpq:p≠q:=fun h=>by
  have:=g.left c (m+1) (by omega) (by
   by_cases h:m+1=l.length
   ·exact .inr ⟨h,c.hs h⟩
   ·exact .inl (by omega))
  rw [h,side_same1] at this
  omega
 have cne:∀ i j,i < j→j < i+l.length→cor l i≠cor l j:=fun i j h1 h2 he=>by
  have n3:=g.len
  by_cases h:j=i+1
  ·subst h; exact g.ne i he
  ·have:=g.cvx.tri3 (i:=i) (j:=i+1) (k:=j) (by omega) (by omega) h2
   rw [he,side_same3] at this
   omega
 rw [List.nodup_cons,List.nodup_cons]
 refine⟨fun h=>?_,fun h=>?_,?_⟩
 ·rcases List.mem_cons.1 h with h | h
  ·exact hpq h
  ·have:=hside _ h
   rw [side_same3] at this
   omega
 ·have:=hside _ h
  rw [side_same2] at this
  omega
 ·unfold arcL
  refine List.Pairwise.filter _ ?_
  rw [List.pairwise_map]
  refine List.Pairwise.imp_of_mem ?_ (List.pairwise_lt_range)
  intro i j hi hj hij
  rw [List.mem_range] at hi hj
  exact cne _ _ (by omega) (by omega)
end
theorem Good.parts {l:List Pt} (g:Good l) {p q:Pt} (hp:0≤edgeI l p) (hq:0≤edgeI l q) (hap:apartB l p q=true) :
  ∃ X,leftL l p q=p :: q :: X∧rightL l q p=(q :: X)++[p]∧(p :: q :: X).Nodup:=by
 obtain⟨a,m,D,s,E,t,c⟩:=g.cut hp hq hap
 exact⟨_,g.ll c,g.rl c,g.nodup c⟩
end Go.Stn
namespace Go.Stn
open Go Go.K Go.RowKit
theorem cor_map {l:List Pt} (h:0 < l.length) (f:Pt→Pt) (i:Nat):cor (l.map f) i=f (cor l i):=by
 have hi:i % l.length < l.length:=Nat.mod_lt _ h
 unfold cor
 rw [List.length_map]
 simp [hi]
theorem Cvx.sub {l:List Pt} (h:Cvx l) (h0:0 < l.length) (o:Pt):Cvx (l.map fun p=>subZ p o):=by
 intro i k hi h2 hk
 rw [List.length_map] at hi hk
 rw [cor_map h0,cor_map h0,cor_map h0]
 have:=h i k hi h2 hk
 unfold sideZ subZ at *
 dsimp only
 grind
end Go.Stn
namespace Go.Stn
open Go Go.K Go.RowKit
structure EdgeF (f:Pt→Pt→Int):Prop where
 anti:∀ u v,f u v = -f v u
 sub:∀ u v x,sideZ u v x=0→f u v=f u x+f x v
theorem EdgeF.same {f:Pt→Pt→Int} (h:EdgeF f) (u:Pt):f u u=0:=by have:=h.anti u u; omega
end Go.Stn
namespace Go.Stn
open Go Go.K Go.RowKit
def upB (p:Pt):Bool:=decide (0 < p.z)
def lowL (l:List Pt):List Pt:=l.filter fun p=>!upB p
end Go.Stn
namespace Go.Stn
open Go Go.K Go.RowKit
theorem findI_spec {α:Type} [Inhabited α] {p:α→Bool} {l:List α} (h:findI p l≠-1):0≤findI p l∧findI p l < (l.length:Int)∧p (l.getD (findI p l).toNat default)=true∧∀ j:Nat,(j:Int) < findI p l→p (l.getD j default)=false:=by
 unfold findI at *
 by_cases ha:l.any p=true
 ·rw [if_pos ha] at *
  have hlt:l.findIdx p < l.length:=List.findIdx_lt_length_of_exists (by simpa using ha)
  have h1:=List.findIdx_getElem (w:=hlt)
  refine⟨by omega,by omega,?_,fun j hj=>?_⟩
  ·rw [show((l.findIdx p:Nat):Int).toNat=l.findIdx p from by omega]
   simpa [hlt] using h1
  ·have hj':j < l.findIdx p:=by omega
   have h2:=List.not_of_lt_findIdx hj'
   have:j < l.length:=by omega
   simpa [this] using h2
 ·rw [if_neg ha] at h
  exact absurd rfl h
theorem findI_miss {α:Type} {p:α→Bool} {l:List α} (h:findI p l = -1):∀ x∈l,p x=false:=fun x hx=>by
 unfold findI at h
 cases hp:p x with
 | false=>rfl
 | true=>
  rw [if_pos (List.any_eq_true.2 ⟨x,hx,hp⟩)] at h
  omega
structure DelI (l m:List Pt) (i j:Int):Prop where
 i0:0≤i
 ij:i < j
 jl:j≤(l.length:Int)
 len:m.length=l.length
 front:m.take i.toNat=lowL (l.take j.toNat)
 back:m.drop j.toNat=l.drop j.toNat
theorem DelI.get {l m:List Pt} {i j:Int} (h:DelI l m i j):m.getD j.toNat default=l.getD j.toNat default:=by
 have hb:=congrArg (fun x:List Pt=>x[0]?) h.back
 simp only [List.getElem?_drop,Nat.add_zero] at hb
 simp only [List.getD_eq_getElem?_getD,hb]
theorem DelI.keep {l m:List Pt} {i j:Int} (h:DelI l m i j) (hj:j < (l.length:Int)) (hu:upB (m.getD j.toNat default)=false):DelI l (m.set i.toNat (m.getD j.toNat default)) (i+1) (j+1):=by
 have hi0:=h.i0; have hij:=h.ij; have hl:=h.len
 have hg:=h.get
 refine⟨by omega,by omega,by omega,by rw [List.length_set]; exact hl,?_,?_⟩
 ·rw [take_succ (l:=l) (by omega) (by omega),take_succ (l:=m.set _ _) hi0 (by rw [List.length_set]; omega)]
  unfold lowL
  rw [List.filter_append,List.filter_cons,if_pos (by rw [←hg,hu]; rfl),List.filter_nil]
  have h2:=h.front
  unfold lowL at h2
  rw [←h2,List.take_set_of_le (Nat.le_refl _),hg]
  congr 1
  rw [List.getD_eq_getElem?_getD,List.getElem?_set_self (by omega)]
  rfl
 ·rw [List.drop_set_of_lt (by omega),show(j+1).toNat=j.toNat+1 from by omega,←List.drop_drop,h.back,List.drop_drop]
theorem DelI.skip {l m:List Pt} {i j:Int} (h:DelI l m i j) (hj:j < (l.length:Int)) (hu:upB (m.getD j.toNat default)=true):DelI l m i (j+1):=by
 have hi0:=h.i0; have hij:=h.ij; have hl:=h.len
 have hg:=h.get
 refine⟨by omega,by omega,by omega,hl,?_,?_⟩
 ·rw [take_succ (l:=l) (by omega) (by omega)]
  unfold lowL
  rw [List.filter_append,List.filter_cons,if_neg (by rw [←hg,hu]; decide),List.filter_nil,List.append_nil]
  exact h.front
 ·rw [show(j+1).toNat=j.toNat+1 from by omega,←List.drop_drop,h.back,List.drop_drop]
theorem DelI.done {l m:List Pt} {i j:Int} (h:DelI l m i j) (hj:¬ j < (l.length:Int)):m.take i.toNat=lowL l∧i.toNat=(lowL l).length∧m.length=l.length:=by
 have hi0:=h.i0; have hij:=h.ij; have hl:=h.len; have hjl:=h.jl
 have hf:=h.front
 rw [take_all (l:=l) (by omega)] at hf
 have:=congrArg List.length hf
 rw [List.length_take] at this
 exact⟨hf,by omega,hl⟩
end Go.Stn
namespace Go.Pln
open Go Go.K Go.RowKit Go.Stn
section
variable {α:Type} [Inhabited α] {p:α→Bool}
def offL (p:α→Bool) (l:List α):List α:=l.filter fun x=>!p x
def offZ (p:α→Bool) (l:List α):List α:=offL p l++List.replicate (l.length - (offL p l).length) default
structure OffI (p:α→Bool) (l m:List α) (i j:Int):Prop where
 i0:0≤i
 ij:i < j
 jl:j≤(l.length:Int)
 len:m.length=l.length
 front:m.take i.toNat=offL p (l.take j.toNat)
 back:m.drop j.toNat=l.drop j.toNat
theorem take_succO {l:List α} {i:Int} (h0:0≤i) (h:i < (l.length:Int)):l.take (i+1).toNat=l.take i.toNat++[l.getD i.toNat default]:=by
 rw [show(i+1).toNat=i.toNat+1 from by omega,List.take_add_one,List.getD_eq_getElem?_getD,List.getElem?_eq_getElem (by omega)]; rfl
omit [Inhabited α] in
theorem off_none {l:List α} (h:findI p l = -1):offL p l=l:=by
 unfold offL
 rw [List.filter_eq_self]
 intro x hx
 rw [findI_miss h x hx]; rfl
theorem off_start {l:List α} (h:¬ findI p l = -1):OffI p l l (findI p l) (findI p l+1):=by
 obtain⟨h0,h1,h2,h3⟩:=findI_spec h
 refine⟨h0,by omega,by omega,rfl,?_,rfl⟩
 rw [take_succO h0 h1]
 unfold offL
 rw [List.filter_append]
 have e1:(l.take (findI p l).toNat).filter (fun x=>!p x)=l.take (findI p l).toNat:=by
  rw [List.filter_eq_self]
  intro x hx
  obtain⟨j,hj,rfl⟩:=List.getElem_of_mem hx
  rw [List.length_take] at hj
  have:=h3 j (by omega)
  have hjl:j < l.length:=by omega
  rw [List.getElem_take]
  simp [hjl] at this
  simp [this]
 rw [e1]
 rw [List.filter_cons,if_neg (by rw [h2]; decide)]
 simp
theorem OffI.get {l m:List α} {i j:Int} (h:OffI p l m i j):m.getD j.toNat default=l.getD j.toNat default:=by
 have hb:=congrArg (fun x:List α=>x[0]?) h.back
 simp only [List.getElem?_drop,Nat.add_zero] at hb
 simp only [List.getD_eq_getElem?_getD,hb]
theorem OffI.keep {l m:List α} {i j:Int} (h:OffI p l m i j) (hj:j < (l.length:Int)) (hu:p (m.getD j.toNat default)=false):OffI p l (m.set i.toNat (m.getD j.toNat default)) (i+1) (j+1):=by
 have hi0:=h.i0; have hij:=h.ij; have hl:=h.len
 have hg:=h.get
 refine⟨by omega,by omega,by omega,by rw [List.length_set]; exact hl,?_,?_⟩
 ·rw [take_succO (l:=l) (by omega) (by omega),take_succO (l:=m.set _ _) hi0 (by rw [List.length_set]; omega)]
  unfold offL
  rw [List.filter_append,List.filter_cons,if_pos (by rw [←hg,hu]; rfl),List.filter_nil]
  have h2:=h.front
  unfold offL at h2
  rw [←h2,List.take_set_of_le (Nat.le_refl _),hg]
  congr 1
  rw [List.getD_eq_getElem?_getD,List.getElem?_set_self (by omega)]
  rfl
 ·rw [List.drop_set_of_lt (by omega),show(j+1).toNat=j.toNat+1 from by omega,←List.drop_drop,h.back,List.drop_drop]
theorem OffI.skip {l m:List α} {i j:Int} (h:OffI p l m i j) (hj:j < (l.length:Int)) (hu:p (m.getD j.toNat default)=true):OffI p l m i (j+1):=by
 have hi0:=h.i0; have hij:=h.ij; have hl:=h.len
 have hg:=h.get
 refine⟨by omega,by omega,by omega,hl,?_,?_⟩
 ·rw [take_succO (l:=l) (by omega) (by omega)]
  unfold offL
  rw [List.filter_append,List.filter_cons,if_neg (by rw [←hg,hu]; decide),List.filter_nil,List.append_nil]
  exact h.front
 ·rw [show(j+1).toNat=j.toNat+1 from by omega,←List.drop_drop,h.back,List.drop_drop]
omit [Inhabited α] in
theorem OffI.done {l m:List α} {i j:Int} (h:OffI p l m i j) (hj:¬ j < (l.length:Int)):m.take i.toNat=offL p l∧i.toNat=(offL p l).length∧m.length=l.length:=by
 have hi0:=h.i0; have hij:=h.ij; have hl:=h.len; have hjl:=h.jl
 have hf:=h.front
 rw [List.take_of_length_le (l:=l) (by omega)] at hf
 have:=congrArg List.length hf
 rw [List.length_take] at this
 exact⟨hf,by omega,hl⟩
omit [Inhabited α] in
theorem off_len (l:List α):(offL p l).length≤l.length:=List.length_filter_le _ _
end
end Go.Pln
namespace Go.Proofs.YtdcfcfhmkfkgmaaGreatDoor
open Go.K Go.Stn Go.Pln Go.RowKit
theorem af92:AF Tryz.prog 92 98 5 40 [.int IntKind.u8 0,.int IntKind.i64 0,.int IntKind.i64 0,.int IntKind.i64 0,.int IntKind.i64 0]:=⟨Tryz.underlying92,by kernel_rfl,rfl⟩
theorem bd41_0s_1i_2i_3i_4i_5l_6i_7i_8i_9i_10i_11i_12i_13u_14i_15i_16i_17i_18i_19i (x0:ByteArray) (x1:Int) (x2:Int) (x3:Int) (x4:Int) (x5a:Option Addr) (x5n x5c:Nat) (x6:Int) (x7:Int) (x8:Int) (x9:Int) (x10:Int) (x11:Int) (x12:Int) (x13:Int) (x14:Int) (x15:Int) (x16:Int) (x17:Int) (x18:Int) (x19:Int) (w:World):(Instr.build 41 #[(0,.string x0),(1,.int .i64 x1),(2,.int .i64 x2),(3,.int .i64 x3),(4,.int .i64 x4),(5,.slice x5a x5n x5c),(6,.int .i64 x6),(7,.int .i64 x7),(8,.int .i64 x8),(9,.int .i64 x9),(10,.int .i64 x10),(11,.int .i64 x11),(12,.int .i64 x12),(13,.int .u8 x13),(14,.int .i64 x14),(15,.int .i64 x15),(16,.int .i64 x16),(17,.int .i64 x17),(18,.int .i64 x18),(19,.int .i64 x19)]).run Tryz.prog w=.ok (.agg #[.string x0,.int .i64 x1,.int .i64 x2,.int .i64 x3,.int .i64 x4,.slice x5a x5n x5c,.int .i64 x6,.int .i64 x7,.int .i64 x8,.int .i64 x9,.int .i64 x10,.int .i64 x11,.int .i64 x12,.int .u8 x13,.int .i64 x14,.int .i64 x15,.int .i64 x16,.int .i64 x17,.int .i64 x18,.int .i64 x19]) w:=by kernel_rfl
theorem bd94_0s_1s_2i (x0:ByteArray) (x1:ByteArray) (x2:Int) (w:World):(Instr.build 94 #[(0,.string x0),(1,.string x1),(2,.int .i64 x2)]).run Tryz.prog w=.ok (.agg #[.string x0,.string x1,.int .i64 x2,.slice none 0 0]) w:=by kernel_rfl
theorem bd98_0u_1i_2i_3i_4i (x0:Int) (x1:Int) (x2:Int) (x3:Int) (x4:Int) (w:World):(Instr.build 98 #[(0,.int .u8 x0),(1,.int .i64 x1),(2,.int .i64 x2),(3,.int .i64 x3),(4,.int .i64 x4)]).run Tryz.prog w=.ok (.agg #[.int .u8 x0,.int .i64 x1,.int .i64 x2,.int .i64 x3,.int .i64 x4]) w:=by kernel_rfl
theorem bs92_1 (x0_0:Int) (x0_1:Int) (x0_2:Int) (x0_3:Int) (x0_4:Int) (w:World):(Instr.buildSlice 92 1 #[(0,.agg #[.int .u8 x0_0,.int .i64 x0_1,.int .i64 x0_2,.int .i64 x0_3,.int .i64 x0_4])]).run Tryz.prog w=.ok (.slice (some ⟨w.heap.size,0,none⟩) 1 1) (w.alloc (.cells (([⟨x0_0,x0_1,x0_2,x0_3,x0_4⟩]:List (Opn)).flatMap encOpn).toArray 98)):=by kernel_rfl
set_option maxRecDepth 100000 in
set_option maxHeartbeats 8000000 in
theorem lsheet_c (s:Sht) (b:Option Addr) (bcap:Nat) (w:World) (hl:Has w (Ints b s.heights)) (hs:Small s.heights.length) :
  Calls Tryz.prog 43 #[.agg #[.string s.name,.int .i64 s.base,.int .i64 s.batter,.int .i64 s.height,.int .i64 s.skin,.slice b s.heights.length bcap,.int .i64 s.least,.int .i64 s.lap,.int .i64 s.run,.int .i64 s.every,.int .i64 s.at_,.int .i64 s.footing,.int .i64 s.spread,.int .u8 s.cope,.int .i64 s.tall,.int .i64 s.short,.int .i64 s.thick,.int .i64 s.low,.int .i64 s.high,.int .i64 s.rood]] w (Gives (fun z:Option Addr×Nat=>.agg #[.string s.name,.int .i64 s.base,.int .i64 s.batter,.int .i64 s.height,.int .i64 s.skin,.slice z.1 s.heights.length z.2,.int .i64 s.least,.int .i64 s.lap,.int .i64 s.run,.int .i64 s.every,.int .i64 s.at_,.int .i64 s.footing,.int .i64 s.spread,.int .u8 s.cope,.int .i64 s.tall,.int .i64 s.short,.int .i64 s.thick,.int .i64 s.low,.int .i64 s.high,.int .i64 s.rood]) (fun z=>Row z.1 1 z.2 3 Go.Stn.encI s.heights) w):=by
 refine calls_of_gk (vs:=[_]) Tryz.func43 rfl rfl (Nat.le_of_ble_eq_true rfl) ?_
 refine gk_seq ?_
 refine gk_region ?_
 refine gk_yx rfl rfl (yx_box (vs:=[_,_,_,_,_,_,_,_,_,_,_,_,_,_,_,_,_,_,_,_]) rfl rfl) fun b1=>?_
 refine gk_yx rfl rfl (yx_alloc tf41 (zs:=[_,_,_,_,_,_,_,_,_,_,_,_,_,_,_,_,_,_,_,_]) rfl) fun b2=>?_
 refine gk_nil (gk_sub (T':=[(1,_),(2,_)]) ⟨rfl,rfl,trivial⟩ ?_)
 refine gk_seq ?_
 refine gk_any 41 (fun _=>mixed) (by kernel_rfl) ?_
 refine ph_y (y_fieldAddr fo37_0 rfl) ?_
 refine ph_y (y_loadB1 1 tf9 rfl rfl rfl) ?_
 refine ph_y (y_fieldAddr fo37_1 rfl) ?_
 refine ph_y (y_loadB1 1 tf3 rfl rfl rfl) ?_
 refine ph_y (y_fieldAddr fo37_2 rfl) ?_
 refine ph_y (y_loadB1 1 tf3 rfl rfl rfl) ?_
 refine ph_y (y_fieldAddr fo37_3 rfl) ?_
 refine ph_y (y_loadB1 1 tf3 rfl rfl rfl) ?_
 refine ph_y (y_fieldAddr fo37_4 rfl) ?_
 refine ph_y (y_loadB1 1 tf3 rfl rfl rfl) ?_
 refine ph_y (y_fieldAddr fo37_5 rfl) ?_
 refine ph_y (y_loadB1 1 tf35 rfl rfl rfl) ?_
 refine ph_yx (yx_append0 (m:=s.heights) af35 Go.Stn.encI_ok rfl rfl (fun _ hw=>(Rd.has (Has.rd hl) hw)) (by have:=hs; unfold Small at *; omega) (by have:=hs; unfold Small at *; unfold maxLen; omega)) ?_
 refine ph_y (y_fieldAddr fo37_6 rfl) ?_
 refine ph_y (y_loadB1 1 tf3 rfl rfl rfl) ?_
 refine ph_y (y_fieldAddr fo37_7 rfl) ?_
 refine ph_y (y_loadB1 1 tf3 rfl rfl rfl) ?_
 refine ph_y (y_fieldAddr fo37_8 rfl) ?_
 refine ph_y (y_loadB1 1 tf3 rfl rfl rfl) ?_
 refine ph_y (y_fieldAddr fo37_9 rfl) ?_
 refine ph_y (y_loadB1 1 tf3 rfl rfl rfl) ?_
 refine ph_y (y_fieldAddr fo37_10 rfl) ?_
 refine ph_y (y_loadB1 1 tf3 rfl rfl rfl) ?_
 refine ph_y (y_fieldAddr fo37_11 rfl) ?_
 refine ph_y (y_loadB1 1 tf3 rfl rfl rfl) ?_
 refine ph_y (y_fieldAddr fo37_12 rfl) ?_
 refine ph_y (y_loadB1 1 tf3 rfl rfl rfl) ?_
 refine ph_y (y_fieldAddr fo37_13 rfl) ?_
 refine ph_y (y_loadB1 1 tf5 rfl rfl rfl) ?_
 refine ph_y (y_fieldAddr fo37_14 rfl) ?_
 refine ph_y (y_loadB1 1 tf3 rfl rfl rfl) ?_
 refine ph_y (y_fieldAddr fo37_15 rfl) ?_
 refine ph_y (y_loadB1 1 tf3 rfl rfl rfl) ?_
 refine ph_y (y_fieldAddr fo37_16 rfl) ?_
 refine ph_y (y_loadB1 1 tf3 rfl rfl rfl) ?_
 refine ph_y (y_fieldAddr fo37_17 rfl) ?_
 refine ph_y (y_loadB1 1 tf3 rfl rfl rfl) ?_
 refine ph_y (y_fieldAddr fo37_18 rfl) ?_
 refine ph_y (y_loadB1 1 tf3 rfl rfl rfl) ?_
 refine ph_y (y_fieldAddr fo37_19 rfl) ?_
 refine ph_y (y_loadB1 1 tf3 rfl rfl rfl) ?_
 intro z15
 refine gk_sub (T':=[(2,_),(4,_),(6,_),(8,_),(10,_),(12,_),(15,_),(17,_),(19,_),(21,_),(23,_),(25,_),(27,_),(29,_),(31,_),(33,_),(35,_),(37,_),(39,_),(41,_),(43,_)]) ⟨rfl,rfl,rfl,rfl,rfl,rfl,rfl,rfl,rfl,rfl,rfl,rfl,rfl,rfl,rfl,rfl,rfl,rfl,rfl,rfl,rfl,trivial⟩ ?_
 refine gk_y rfl rfl (y_buildL rfl (bd41_0s_1i_2i_3i_4i_5l_6i_7i_8i_9i_10i_11i_12i_13u_14i_15i_16i_17i_18i_19i _ _ _ _ _ _ _ _ _ _ _ _ _ _ _ _ _ _ _ _ _ _)) ?_
 refine gk_storeAll 1 tf41 rfl rfl (vs:=[_,_,_,_,_,_,_,_,_,_,_,_,_,_,_,_,_,_,_,_]) rfl rfl rfl rfl rfl ?_
 refine gk_nil (gk_sub (T':=[(2,_)]) ⟨rfl,trivial⟩ ?_)
 refine gk_ret ?_
 refine gk_gives (z15.1,z15.2) 0 (rv_one rfl (r1_cellA (i:=1) (vs:=[.string s.name,.int .i64 s.base,.int .i64 s.batter,.int .i64 s.height,.int .i64 s.skin,.slice z15.1 s.heights.length z15.2,.int .i64 s.least,.int .i64 s.lap,.int .i64 s.run,.int .i64 s.every,.int .i64 s.at_,.int .i64 s.footing,.int .i64 s.spread,.int .u8 s.cope,.int .i64 s.tall,.int .i64 s.short,.int .i64 s.thick,.int .i64 s.low,.int .i64 s.high,.int .i64 s.rood]) tf41 rfl rfl rfl rfl)) ?_ rfl
 rfl
set_option maxRecDepth 100000 in
set_option maxHeartbeats 8000000 in
theorem lwall_c (v:Wll) (b:Option Addr) (bcap:Nat) (w:World) (hv:Has w (Elems b 5 encOpn v.opens)) (hs:Small v.opens.length) :
  Calls Tryz.prog 44 #[.agg #[.string v.name,.string v.sheet,.int .i64 v.length,.slice b v.opens.length bcap]] w (Gives (fun z:Option Addr×Nat=>.agg #[.string v.name,.string v.sheet,.int .i64 v.length,.slice z.1 v.opens.length z.2]) (fun z=>Row z.1 5 z.2 98 encOpn v.opens) w):=by
 unfold Small at hs
 refine calls_of_gk (vs:=[_]) Tryz.func44 rfl rfl (Nat.le_of_ble_eq_true rfl) ?_
 refine gk_seq ?_
 refine gk_region ?_
 refine gk_yx rfl rfl (yx_box (vs:=[_,_,_,_]) rfl rfl) fun b1=>?_
 refine gk_yx rfl rfl (yx_alloc tf94 (zs:=[_,_,_,_]) rfl) fun b2=>?_
 refine gk_nil (gk_sub (T':=[(1,_),(2,_)]) ⟨rfl,rfl,trivial⟩ ?_)
 refine gk_seq ?_
 refine gk_region ?_
 refine gk_y rfl rfl (y_fieldAddr fo65_0 rfl) ?_
 refine gk_y rfl rfl (y_loadB1 1 tf9 rfl rfl rfl) ?_
 refine gk_y rfl rfl (y_fieldAddr fo65_1 rfl) ?_
 refine gk_y rfl rfl (y_loadB1 1 tf9 rfl rfl rfl) ?_
 refine gk_y rfl rfl (y_fieldAddr fo65_2 rfl) ?_
 refine gk_y rfl rfl (y_loadB1 1 tf3 rfl rfl rfl) ?_
 refine gk_y rfl rfl (y_buildL rfl (bd94_0s_1s_2i _ _ _)) ?_
 refine gk_yx rfl rfl (yx_alloc tf94 (zs:=[_,_,_,_]) rfl) fun b3=>?_
 refine gk_storeV 0 tf94 rfl rfl (vs:=[_,_,_,_]) rfl rfl rfl rfl rfl ?_
 refine gk_nil (gk_sub (T':=[(1,_),(2,_),(3,_)]) ⟨rfl,rfl,rfl,trivial⟩ ?_)
 refine gk_seq ?_
 refine gk_seq ?_
 refine gk_region ?_
 refine gk_y rfl rfl (y_assign rfl) ?_
 refine gk_nil (gk_sub (T':=[(1,_),(2,_),(3,_),(4,_)]) ⟨rfl,rfl,rfl,rfl,trivial⟩ ?_)
 refine gk_block ?_
 refine gk_newNil 98 encOpn 5 ?_
 refine gk_loop (X:=Int×Option Addr×Nat×List Opn) (fun⟨i,ra,rc,M⟩=>[(1,.pointer (some ⟨b1,0,none⟩)),(2,.pointer (some ⟨b2,0,none⟩)),(3,.pointer (some ⟨b3,0,none⟩)),(4,.int .i64 i)]) (fun⟨i,ra,rc,M⟩=>[Row ra 5 rc 98 encOpn M,Box b3 [.string v.name,.string v.sheet,.int .i64 v.length,.slice ra M.length rc] 94,Box b2 [.string ⟨#[]⟩,.string ⟨#[]⟩,.int .i64 0,.slice none 0 0] 94,Box b1 [.string v.name,.string v.sheet,.int .i64 v.length,.slice b v.opens.length bcap] 65]) (fun⟨i,ra,rc,M⟩=>(0≤i∧i≤v.opens.length∧M=v.opens.take i.toNat)) (fun⟨i,ra,rc,M⟩=>(v.opens.length - i).toNat) (0,none,0,[]) ⟨rfl,rfl,rfl,rfl,trivial⟩ rfl ?_ ?_
 ·exact⟨by omega,by omega,rfl⟩
 ·rintro ⟨i,ra,rc,M⟩ hI
  obtain⟨g0,g1,g2⟩:=hI
  have hml:M.length≤v.opens.length:=by rw [g2,List.length_take]; omega
  refine gk_seq ?_
  refine gk_seq ?_
  refine gk_region ?_
  refine gk_y rfl rfl (y_move rfl) ?_
  refine gk_y rfl rfl (y_fieldAddr fo65_3 rfl) ?_
  refine gk_y rfl rfl (y_loadB1 3 tf63 rfl rfl rfl) ?_
  refine gk_y rfl rfl (y_lenS (Tryz.underlying63) rfl) ?_
  refine gk_y rfl rfl (y_lss rfl rfl) ?_
  refine gk_nil (gk_sub (T':=[(1,_),(2,_),(3,_),(4,_),(17,_)]) ⟨rfl,rfl,rfl,rfl,rfl,trivial⟩ ?_)
  refine gk_cond rfl (fun hc17=>?_) (fun hc17=>?_)
  ·have hc17:=of_decide_eq_true hc17
   refine gk_skip ?_
   refine gk_seq ?_
   refine gk_block ?_
   refine gk_seq ?_
   refine gk_region ?_
   refine gk_y rfl rfl (y_fieldAddr fo65_3 rfl) ?_
   refine gk_y rfl rfl (y_loadB1 3 tf63 rfl rfl rfl) ?_
   refine gk_y rfl rfl (y_move rfl) ?_
   refine gk_y rfl rfl (y_indexE se63 rfl rfl (fun _ hw=>(Rd.has (Has.rd hv) hw)) (by omega) (by omega)) ?_
   refine gk_y rfl rfl (y_loadE (vs:=[_,_,_,_,_]) tf139 rfl (fun _ hw=>(Rd.has (Has.rd hv) hw)) (by omega) (by omega) rfl) ?_
   refine gk_yx rfl rfl (yx_alloc tf139 (zs:=[_,_,_,_,_]) rfl) fun b5=>?_
   refine gk_storeV 0 tf139 rfl rfl (vs:=[_,_,_,_,_]) rfl rfl rfl rfl rfl ?_
   refine gk_nil (gk_sub (T':=[(1,_),(2,_),(3,_),(4,_),(5,_)]) ⟨rfl,rfl,rfl,rfl,rfl,trivial⟩ ?_)
   refine gk_region ?_
   refine gk_y rfl rfl (y_fieldAddr fo94_3 rfl) ?_
   refine gk_y rfl rfl (y_loadB1 2 tf92 rfl rfl rfl) ?_
   refine gk_y rfl rfl (y_fieldAddr fo139_0 rfl) ?_
   refine gk_y rfl rfl (y_loadB1 0 tf5 rfl rfl rfl) ?_
   refine gk_y rfl rfl (y_fieldAddr fo139_1 rfl) ?_
   refine gk_y rfl rfl (y_loadB1 0 tf3 rfl rfl rfl) ?_
   refine gk_y rfl rfl (y_fieldAddr fo139_2 rfl) ?_
   refine gk_y rfl rfl (y_loadB1 0 tf3 rfl rfl rfl) ?_
   refine gk_y rfl rfl (y_fieldAddr fo139_3 rfl) ?_
   refine gk_y rfl rfl (y_loadB1 0 tf3 rfl rfl rfl) ?_
   refine gk_y rfl rfl (y_fieldAddr fo139_4 rfl) ?_
   refine gk_y rfl rfl (y_loadB1 0 tf3 rfl rfl rfl) ?_
   refine gk_y rfl rfl (y_buildL rfl (bd98_0u_1i_2i_3i_4i _ _ _ _ _)) ?_
   refine gk_yx rfl rfl (yx_buildSlice rfl (bs92_1 _ _ _ _ _) encOpn_ok rfl) fun b38=>?_
   refine gk_append (m:=[(v.opens.getD (i).toNat default)]) 2 af92 encOpn_ok rfl rfl rfl rfl (fun _ hw=>(has_row encOpn_ok (hw.has (p:=0) rfl))) (by first | omega | (simp only [List.length_cons,List.length_nil]; omega)) (by first | (unfold maxLen; omega) | (simp only [List.length_cons,List.length_nil,maxLen]; omega)) fun a39 c39=>?_
   refine gk_y rfl rfl (y_fieldAddr fo94_3 rfl) ?_
   refine gk_storeV 3 tf92 rfl rfl (vs:=[_]) rfl rfl rfl rfl rfl ?_
   refine gk_nil (gk_sub (T':=[(1,_),(2,_),(3,_),(4,_)]) ⟨rfl,rfl,rfl,rfl,trivial⟩ ?_)
   refine gk_region ?_
   refine gk_y rfl rfl (y_move rfl) ?_
   refine gk_y rfl rfl (y_addI rfl rfl (by omega) (by omega)) ?_
   refine gk_y rfl rfl (y_assign rfl) ?_
   refine gk_nil (gk_sub (T':=[(1,_),(2,_),(3,_),(4,_)]) ⟨rfl,rfl,rfl,rfl,trivial⟩ ?_)
   refine gk_dropAt 0 rfl ?_
   refine gk_dropAt 0 rfl ?_
   exact gk_next (i+1,_,_,_) ⟨rfl,rfl,rfl,rfl,trivial⟩ rfl ⟨by omega,by omega,by rw [g2,take_succO g0 hc17]⟩ (by simp only []; omega)
  ·have hc17:=of_decide_eq_false hc17
   obtain rfl:M=v.opens:=by rw [g2,List.take_of_length_le (by omega)]
   refine gk_exit rfl ?_
   refine gk_seq ?_
   refine gk_region ?_
   refine gk_y rfl rfl (y_loadBA 1 tf94 rfl rfl (vs:=[_,_,_,_]) rfl rfl) ?_
   refine gk_storeV 2 tf94 rfl rfl (vs:=[_,_,_,_]) rfl rfl rfl rfl rfl ?_
   refine gk_nil (gk_sub (T':=[(2,_)]) ⟨rfl,trivial⟩ ?_)
   refine gk_ret ?_
   refine gk_gives (ra,rc) 0 (rv_one rfl (r1_cellA (i:=2) (vs:=[_,_,_,_]) tf94 rfl rfl rfl rfl)) ?_ rfl
   rfl
end Go.Proofs.YtdcfcfhmkfkgmaaGreatDoor
namespace Go.Proofs.YtdcfcfhmkfkgmaaGreatDoor
open Go.K Go.Stn Go.Pln Go.RowKit
theorem af29:AF Tryz.prog 29 94 4 64 [.string ⟨#[]⟩,.string ⟨#[]⟩,.int IntKind.i64 0,.slice none 0 0]:=⟨Tryz.underlying29,by kernel_rfl,rfl⟩
theorem en47:En Tryz.prog 47:=en_of Tryz.func47 (by kernel_rfl) (by kernel_rfl)
theorem en48:En Tryz.prog 48:=en_of Tryz.func48 (by kernel_rfl) (by kernel_rfl)
theorem bd94_0s_1s (x0:ByteArray) (x1:ByteArray) (w:World):(Instr.build 94 #[(0,.string x0),(1,.string x1)]).run Tryz.prog w=.ok (.agg #[.string x0,.string x1,.int IntKind.i64 0,.slice none 0 0]) w:=by kernel_rfl
theorem bs29_1 (x0:WlC) (w:World):(Instr.buildSlice 29 1 #[(0,.agg #[.string x0.s.name,.string x0.s.sheet,.int .i64 x0.s.length,.slice x0.a x0.s.opens.length x0.cap])]).run Tryz.prog w=.ok (.slice (some ⟨w.heap.size,0,none⟩) 1 1) (w.alloc (.cells (([x0]:List (WlC)).flatMap encWll).toArray 94)):=by kernel_rfl
theorem okQ_high {q:Plan} (hq:OkQ q) (n:ByteArray):0≤(getS q.S n).height∧(getS q.S n).height≤3000:=by
 unfold getS
 split
 ·rename_i h
  have hl:sheetJ q.S n < (q.S.length:Int):=Stn.findI_lt _ h
  have:=(sheetP_nums (hq.sh _ (getD_memS (l:=q.S) (i:=(sheetJ q.S n).toNat) (by omega)))).height
  omega
 ·exact⟨by decide,by decide⟩
set_option maxRecDepth 100000 in
set_option maxHeartbeats 8000000 in
theorem form2_c (r:Nat) (ws:List ByteArray) (p:Nat) (q:Plan) (bp:Nat) (w:World) (B:Nat→Prop) (hB:∀ k,B k→k < w.heap.size) (hA:(SepR [Rdr 161 r ws,PlP p q]).A B w) (hq:OkQ q) (hb:Rd (fun k=>k < w.heap.size∧¬ B k) w (Box bp [.pointer (some ⟨p,0,none⟩)] 157)) (_hws:ws.length≤100000) :
  Calls Tryz.prog 112 #[.pointer (some ⟨r,0,none⟩),.pointer (some ⟨bp,0,none⟩)] w (TurnsF 33 (wallLineE q ws) (fun _x (_:Unit)=>.tuple #[]) (fun x _=>PlP p x) (plAt yP p) B w):=by
 refine calls_of_gkB hB hA (vs:=[_,_]) Tryz.func112 rfl rfl (Nat.le_of_ble_eq_true rfl) ?_
 refine gk_split ?_
 refine gk_seq ?_
 refine gk_region ?_
 refine gk_y rfl rfl (y_move rfl) ?_
 refine gk_callE (res:=nameE ws) 0 en113 rfl rfl rfl (fun w B hF=>name_c r ws w B (fun k hk=>(hF.own k hk).2) hF.A) (fun k hk7=>?_) (fun x7 m7 hx7=>?_)
 ·
  exact gk_thrownF 1 rfl plAt_pl (by rw [wallLineE,hk7]; first | done | rfl)
 refine gk_y rfl rfl (y_move rfl) ?_
 refine gk_callE (res:=nameE x7.2) 0 en113 rfl rfl rfl (fun w B hF=>name_c r x7.2 w B (fun k hk=>(hF.own k hk).2) hF.A) (fun k hk9=>?_) (fun x9 m9 hx9=>?_)
 ·
  exact gk_thrownF 1 rfl plAt_pl (by rw [wallLineE,hx7,ok_bind,hk9]; first | done | rfl)
 refine gk_y rfl rfl (y_buildL rfl (bd94_0s_1s _ _)) ?_
 refine gk_yx rfl rfl (yx_alloc tf94 (zs:=[_,_,_,_]) rfl) fun b3=>?_
 refine gk_storeV 0 tf94 rfl rfl (vs:=[_,_,_,_]) rfl rfl rfl rfl rfl ?_
 refine gk_nil (gk_sub (T':=[(0,_),(1,_),(3,_)]) ⟨rfl,rfl,rfl,trivial⟩ ?_)
 refine gk_seq ?_
 refine gk_region ?_
 refine gk_y rfl rfl (y_move rfl) ?_
 refine gk_y rfl rfl (y_fieldAddr fo94_2 rfl) ?_
 refine gk_yx rfl rfl (yx_buildSlice rfl (bs206_1 (b3,2)) encFld_ok rfl) fun b13=>?_
 refine gk_front 1 rfl ?_
 refine gk_front 2 rfl ?_
 refine gk_pack 2 ?_
 refine gk_callE (res:=numsE 1 x9.2) 0 en114 rfl rfl rfl (fun w B hF=>numbers_c r x9.2 b3 [.string x7.1,.string x9.1,.int .i64 0,.slice none 0 0] 94 [2] [(b3,2)] _ _ w B (fun k hk=>(hF.own k hk).2) hF.A (rd_row encFld_ok (hF.other 0 rfl)) rfl (by intro o ho; simp at ho; simp; omega) (by simp [Small])) (fun k hk14=>?_) (fun x14 m14 hx14=>?_)
 ·
  exact gk_thrownF 2 rfl plAt_pl (by rw [wallLineE,hx7,ok_bind,hx9,ok_bind,hk14]; first | done | rfl)
 refine gk_split ?_
 refine gk_conv (R':=Box b3 [.string x7.1,.string x9.1,.int .i64 ((x14.1).getD 0 0),.slice none 0 0] 94) 1 rfl (fun B w hA=>hA) ?_
 refine gk_dropAt 2 rfl ?_
 refine gk_nil (gk_sub (T':=[(0,_),(1,_),(3,_)]) ⟨rfl,rfl,rfl,trivial⟩ ?_)
 refine gk_seq ?_
 refine gk_region ?_
 refine gk_y rfl rfl (y_move rfl) ?_
 refine gk_callE (res:=endE x14.2) 0 en111 rfl rfl rfl (fun w B hF=>end_c r x14.2 w B (fun k hk=>(hF.own k hk).2) hF.A) (fun k hk16=>?_) (fun x16 m16 hx16=>?_)
 ·
  exact gk_thrownF 2 rfl plAt_pl (by rw [wallLineE,hx7,ok_bind,hx9,ok_bind,hx14,ok_bind,hk16]; first | done | rfl)
 refine gk_nil (gk_sub (T':=[(1,_),(3,_)]) ⟨rfl,rfl,trivial⟩ ?_)
 refine gk_front 2 rfl ?_
 refine gk_openPl fun sa sc S wa wc V hS hV=>?_
 have hlS:S.length=q.S.length:=by rw [←hS,List.length_map]
 have hlV:V.length=q.V.length:=by rw [←hV,List.length_map]
 have hq20:=hq.ls
 have hq50:=hq.lv
 refine gk_seq ?_
 refine gk_any3 (ch [(9,Nat)]) 12 [0,1,3,0,8,31,63,127,127,0,767,2047] (fun _=>mixed) (by kernel_rfl) (ch_ne _ ⟨inferInstance,trivial⟩) ?_
 refine ph3_y (fun ρ=>y_load1 tf157 rfl (fun _ hw=>has_box_cell (Rd.has hb hw) rfl)) (fun ρ ρ' h=>by rfl) ?_
 refine ph3_y (fun ρ=>y_nilCheck rfl) (fun ρ ρ' h=>by rfl) ?_
 refine ph3_y (fun ρ=>y_loadBA 0 tf31 rfl rfl (vs:=[_,_]) rfl rfl) (fun ρ ρ' h=>by rfl) ?_
 refine ph3_y (fun ρ=>y_fieldAddr fo94_1 rfl) (fun ρ ρ' h=>by rfl) ?_
 refine ph3_y (fun ρ=>y_loadB1 6 tf9 rfl rfl rfl) (fun ρ ρ' h=>by rfl) ?_
 refine ph3_y (fun ρ=>y_call en46 rfl (fun w hw=>plsheet_c _ _ S _ _ _ x9.1 w (has_row encSht_ok (hw.has (p:=1) rfl)) (by unfold Small; omega))) (fun ρ ρ' h=>by rfl) ?_
 refine ph3_y (fun ρ=>y_move rfl) (fun ρ ρ' h=>by rfl) ?_
 refine ph3_y (fun ρ=>y_extract rfl rfl) (fun ρ ρ' h=>by rfl) ?_
 refine ph3_y (fun ρ=>y_extract rfl rfl) (fun ρ ρ' h=>by rfl) ?_
 refine ph3_yx (fun ρ=>yx_alloc tf41 (zs:=[_,_,_,_,_,_,_,_,_,_,_,_,_,_,_,_,_,_,_,_]) rfl) (fun ρ ρ' h=>⟨by rfl,by rfl⟩) ?_
 refine ph3_st (R:=fun ρ=>Box (ρ 9) [.string ⟨#[]⟩,.int .i64 0,.int .i64 0,.int .i64 0,.int .i64 0,.slice none 0 0,.int .i64 0,.int .i64 0,.int .i64 0,.int .i64 0,.int .i64 0,.int .i64 0,.int .i64 0,.int .u8 0,.int .i64 0,.int .i64 0,.int .i64 0,.int .i64 0,.int .i64 0,.int .i64 0] 41) (A:=fun ρ=>Box (ρ 9) [.string (getSh S x9.1).s.name,.int .i64 ((getSh S x9.1).s.base),.int .i64 ((getSh S x9.1).s.batter),.int .i64 ((getSh S x9.1).s.height),.int .i64 ((getSh S x9.1).s.skin),.slice (getSh S x9.1).a (getSh S x9.1).s.heights.length (getSh S x9.1).cap,.int .i64 ((getSh S x9.1).s.least),.int .i64 ((getSh S x9.1).s.lap),.int .i64 ((getSh S x9.1).s.run),.int .i64 ((getSh S x9.1).s.every),.int .i64 ((getSh S x9.1).s.at_),.int .i64 ((getSh S x9.1).s.footing),.int .i64 ((getSh S x9.1).s.spread),.int .u8 (getSh S x9.1).s.cope,.int .i64 ((getSh S x9.1).s.tall),.int .i64 ((getSh S x9.1).s.short),.int .i64 ((getSh S x9.1).s.thick),.int .i64 ((getSh S x9.1).s.low),.int .i64 ((getSh S x9.1).s.high),.int .i64 ((getSh S x9.1).s.rood)] 41) 9 rfl rfl (fun _=>rfl) (fun ρ=>so_box tf41 rfl rfl (vs:=[_,_,_,_,_,_,_,_,_,_,_,_,_,_,_,_,_,_,_,_]) rfl rfl rfl rfl rfl) (fun ρ ρ' h=>by(first | rfl | simp only [h 9 rfl])) ?_
 refine ph3_y (fun ρ=>y_assign rfl) (fun ρ ρ' h=>by rfl) ?_
 refine fun ρ=>gk_nil (gk_name (X:=Nat) (ρ 9) (fun b4=>[(1,.pointer (some ⟨bp,0,none⟩)),(3,.pointer (some ⟨b3,0,none⟩)),(4,.pointer (some ⟨b4,0,none⟩)),(5,.bool (decide (0≤sheetI S x9.1)))]) (fun b4=>[Box b4 [.string (getSh S x9.1).s.name,.int .i64 ((getSh S x9.1).s.base),.int .i64 ((getSh S x9.1).s.batter),.int .i64 ((getSh S x9.1).s.height),.int .i64 ((getSh S x9.1).s.skin),.slice (getSh S x9.1).a (getSh S x9.1).s.heights.length (getSh S x9.1).cap,.int .i64 ((getSh S x9.1).s.least),.int .i64 ((getSh S x9.1).s.lap),.int .i64 ((getSh S x9.1).s.run),.int .i64 ((getSh S x9.1).s.every),.int .i64 ((getSh S x9.1).s.at_),.int .i64 ((getSh S x9.1).s.footing),.int .i64 ((getSh S x9.1).s.spread),.int .u8 (getSh S x9.1).s.cope,.int .i64 ((getSh S x9.1).s.tall),.int .i64 ((getSh S x9.1).s.short),.int .i64 ((getSh S x9.1).s.thick),.int .i64 ((getSh S x9.1).s.low),.int .i64 ((getSh S x9.1).s.high),.int .i64 ((getSh S x9.1).s.rood)] 41,Box p [.slice sa S.length sc,.slice wa V.length wc] 31,Row sa 20 sc 41 encSht S,Go.K.Rows (rowH 3) S,Row wa 4 wc 94 encWll V,Go.K.Rows (rowO 98) V,Rdr 161 r x16.2,Box b3 [.string x7.1,.string x9.1,.int .i64 ((x14.1).getD 0 0),.slice none 0 0] 94]) ⟨rfl,rfl,rfl,rfl,trivial⟩ rfl ?_)
 rintro b4
 refine gk_seq ?_
 refine gk_block ?_
 refine gk_seq ?_
 refine gk_any 8 (fun _=>mixed) (by kernel_rfl) ?_
 refine ph_y (y_load1 tf157 rfl (fun _ hw=>has_box_cell (Rd.has hb hw) rfl)) ?_
 refine ph_y (y_nilCheck rfl) ?_
 refine ph_y (y_loadBA 1 tf31 rfl rfl (vs:=[_,_]) rfl rfl) ?_
 refine ph_y (y_fieldAddr fo94_0 rfl) ?_
 refine ph_y (y_loadB1 7 tf9 rfl rfl rfl) ?_
 refine ph_y (y_call en47 rfl (fun w hw=>plwall_c _ _ _ _ _ V x7.1 w (has_row encWll_ok (hw.has (p:=4) rfl)) (by unfold Small; omega))) ?_
 refine ph_y (y_geq rfl rfl) ?_
 refine ph_y (y_assign rfl) ?_
 refine gk_nil (gk_sub (T':=[(1,_),(3,_),(4,_),(5,_),(26,_)]) ⟨rfl,rfl,rfl,rfl,rfl,trivial⟩ ?_)
 refine gk_cond rfl (fun hc26=>?_) (fun hc26=>?_)
 ·have h26:0≤wallJ q.V x7.1:=by have:=of_decide_eq_true hc26; rwa [wallI_J,hV] at this
  refine gk_region ?_
  refine gk_callP en91 rfl (fun w hw=>fail_c _ w) ?_
  exact gk_thrownF 1 rfl (plAt_box (y:=yP)) (by rw [wallLineE,hx7,ok_bind,hx9,ok_bind,hx14,ok_bind,hx16,ok_bind]; exact if_pos h26)
 ·have h26:¬ 0≤wallJ q.V x7.1:=by have:=of_decide_eq_false hc26; rwa [wallI_J,hV] at this
  refine gk_seq ?_
  refine gk_region ?_
  refine gk_y rfl rfl (y_move rfl) ?_
  refine gk_y rfl rfl (y_not rfl) ?_
  refine gk_y rfl rfl (y_assign rfl) ?_
  refine gk_nil (gk_sub (T':=[(1,_),(3,_),(4,_),(35,_)]) ⟨rfl,rfl,rfl,rfl,trivial⟩ ?_)
  refine gk_cond rfl (fun hc35=>?_) (fun hc35=>?_)
  ·have h35:¬ 0≤sheetJ q.S x9.1:=by have h:=hc35; rw [sheetI_J,hS] at h; simpa using h
   refine gk_region ?_
   refine gk_callP en91 rfl (fun w hw=>fail_c _ w) ?_
   exact gk_thrownF 1 rfl (plAt_box (y:=yP)) (by rw [wallLineE,hx7,ok_bind,hx9,ok_bind,hx14,ok_bind,hx16,ok_bind]; exact(if_neg h26).trans (if_neg h35))
  ·have h35:0≤sheetJ q.S x9.1:=by have h:=hc35; rw [sheetI_J,hS] at h; simpa using h
   refine gk_seq ?_
   refine gk_region ?_
   refine gk_y rfl rfl (y_loadBA 7 tf94 rfl rfl (vs:=[_,_,_,_]) rfl rfl) ?_
   refine gk_y rfl rfl (y_loadBA 0 tf41 rfl rfl (vs:=[_,_,_,_,_,_,_,_,_,_,_,_,_,_,_,_,_,_,_,_]) rfl rfl) ?_
   refine gk_y rfl rfl (y_call en48 rfl (fun w hw=>valid_c none 0 (⟨x7.1,x9.1,(x14.1).getD 0 0,[]⟩:Wll) _ _ (getSh S x9.1).s w ⟨fun _=>False,fun _ h=>h.elim,.inl rfl⟩ (Nat.le_refl _) (by simp [Small]) (by intro o ho; cases ho) (by rw [getSh_S,hS]; exact okQ_high hq _))) ?_
   refine gk_y rfl rfl (y_not rfl) ?_
   refine gk_y rfl rfl (y_assign rfl) ?_
   refine gk_nil (gk_sub (T':=[(1,_),(3,_),(39,_)]) ⟨rfl,rfl,rfl,trivial⟩ ?_)
   refine gk_cond rfl (fun hc39=>?_) (fun hc39=>?_)
   ·have h39:¬ wallB (getS q.S x9.1).height ⟨x7.1,x9.1,(x14.1).getD 0 0,[]⟩=true:=by have h:=hc39; rw [getSh_S,hS] at h; simpa using h
    refine gk_region ?_
    refine gk_callP en91 rfl (fun w hw=>fail_c _ w) ?_
    exact gk_thrownF 1 rfl (plAt_box (y:=yP)) (by rw [wallLineE,hx7,ok_bind,hx9,ok_bind,hx14,ok_bind,hx16,ok_bind]; exact(if_neg h26).trans ((if_pos h35).trans (if_neg h39)))
   ·have h39:wallB (getS q.S x9.1).height ⟨x7.1,x9.1,(x14.1).getD 0 0,[]⟩=true:=by have h:=hc39; rw [getSh_S,hS] at h; simpa using h
    refine gk_seq ?_
    refine gk_region ?_
    refine gk_y rfl rfl (y_load1 tf157 rfl (fun _ hw=>has_box_cell (Rd.has hb hw) rfl)) ?_
    refine gk_y rfl rfl (y_nilCheck rfl) ?_
    refine gk_y rfl rfl (y_fieldAddr fo31_1 rfl) ?_
    refine gk_y rfl rfl (y_loadB1 1 tf29 rfl rfl rfl) ?_
    refine gk_y rfl rfl (y_lenS (Tryz.underlying29) rfl) ?_
    refine gk_y rfl rfl (y_eql rfl rfl) ?_
    refine gk_y rfl rfl (y_assign rfl) ?_
    refine gk_nil (gk_sub (T':=[(1,_),(3,_),(45,_)]) ⟨rfl,rfl,rfl,trivial⟩ ?_)
    refine gk_cond rfl (fun hc45=>?_) (fun hc45=>?_)
    ·have h45:q.V.length=50:=by have:=of_decide_eq_true hc45; omega
     refine gk_region ?_
     refine gk_callP en91 rfl (fun w hw=>fail_c _ w) ?_
     exact gk_thrownF 1 rfl (plAt_box (y:=yP)) (by rw [wallLineE,hx7,ok_bind,hx9,ok_bind,hx14,ok_bind,hx16,ok_bind]; exact(if_neg h26).trans ((if_pos h35).trans ((if_pos h39).trans (if_pos h45))))
    ·have h45:¬ q.V.length=50:=by have:=of_decide_eq_false hc45; omega
     refine gk_skip ?_
     refine gk_anyC (V:=fun z=>.slice z.1 ((V++[(⟨⟨x7.1,x9.1,((x14.1).getD 0 0),[]⟩,none,0⟩:WlC)])).length z.2) (R':=fun z:Option Addr×Nat=>Row z.1 4 z.2 94 encWll (V++[(⟨⟨x7.1,x9.1,((x14.1).getD 0 0),[]⟩,none,0⟩:WlC)])) (Bad:=fun _=>False) 7 [0] 4 60 (fun _=>mixed) rfl rfl (by kernel_rfl) rfl (fun _ hb=>hb.elim) rfl ?_
     refine phs_y (y_load1 tf157 rfl (fun _ hw=>has_box_cell (Rd.has hb hw) rfl)) ?_
     refine phs_y (y_load1 tf157 rfl (fun _ hw=>has_box_cell (Rd.has hb hw) rfl)) ?_
     refine phs_y (y_nilCheck rfl) ?_
     refine phs_y (y_fieldAddr fo31_1 rfl) ?_
     refine phs_y (y_loadB1 1 tf29 rfl rfl rfl) ?_
     refine phs_y (y_loadBA 7 tf94 rfl rfl (vs:=[_,_,_,_]) rfl rfl) ?_
     refine phs_yx (yx_buildSlice rfl (bs29_1 (⟨⟨x7.1,x9.1,((x14.1).getD 0 0),[]⟩,none,0⟩:WlC)) encWll_ok rfl) ?_
     refine⟨fun b59=>co_append (m:=[(⟨⟨x7.1,x9.1,((x14.1).getD 0 0),[]⟩,none,0⟩:WlC)]) af29 encWll_ok rfl rfl (fun _ hw=>(has_row encWll_ok (hw.has (p:=0) rfl))) (by first | omega | (simp only [List.length_cons,List.length_nil]; omega)) (by first | (unfold maxLen; omega) | (simp only [List.length_cons,List.length_nil,maxLen]; omega)),?_⟩
     intro z60
     intro b59
     refine gk_sub (T':=[(53,_),(60,_)]) ⟨rfl,rfl,trivial⟩ ?_
     refine gk_y rfl rfl (y_nilCheck rfl) ?_
     refine gk_y rfl rfl (y_fieldAddr fo31_1 rfl) ?_
     refine gk_storeV 2 tf29 rfl rfl (vs:=[_]) rfl rfl rfl rfl rfl ?_
     refine gk_nil (gk_sub (T':=[]) trivial ?_)
     refine gk_newNil 98 encOpn 5 ?_
     refine gk_front 7 rfl ?_
     refine gk_pack 2 ?_
     refine gk_conv (R':=Go.K.Rows (rowO 98) (V++[(⟨⟨x7.1,x9.1,(x14.1).getD 0 0,[]⟩,none,0⟩:WlC)])) 0 rfl (fun B w hA=>rows_snoc (f:=rowO 98) hA) ?_
     refine gk_front 6 rfl ?_
     refine gk_front 6 rfl ?_
     refine gk_front 6 rfl ?_
     refine gk_front 6 rfl ?_
     refine gk_closePl (y:=yP) (q:=⟨q.S,q.V++[⟨x7.1,x9.1,(x14.1).getD 0 0,[]⟩]⟩) (hS) (by rw [List.map_append,hV]; rfl) ?_
     exact gk_turnsF ⟨q.S,q.V++[⟨x7.1,x9.1,(x14.1).getD 0 0,[]⟩]⟩ () 0 (rv_none rfl) rfl rfl (by rw [wallLineE,hx7,ok_bind,hx9,ok_bind,hx14,ok_bind,hx16,ok_bind]; exact(if_neg h26).trans ((if_pos h35).trans ((if_pos h39).trans (if_neg h45))))
end Go.Proofs.YtdcfcfhmkfkgmaaGreatDoor
namespace Go.Proofs.YtdcfcfhmkfkgmaaGreatDoor
open Go.K Go.Stn Go.Pln Go.RowKit
theorem sa138:SA Tryz.prog 138 9 5 1:=⟨Tryz.underlying138,by kernel_rfl⟩
theorem bd98_0u (x0:Int) (w:World):(Instr.build 98 #[(0,.int .u8 x0)]).run Tryz.prog w=.ok (.agg #[.int .u8 x0,.int IntKind.i64 0,.int IntKind.i64 0,.int IntKind.i64 0,.int IntKind.i64 0]) w:=by kernel_rfl
theorem bs206_4 (x0:Nat×Nat) (x1:Nat×Nat) (x2:Nat×Nat) (x3:Nat×Nat) (w:World):(Instr.buildSlice 206 4 #[(0,.pointer (some ⟨x0.1,x0.2,none⟩)),(1,.pointer (some ⟨x1.1,x1.2,none⟩)),(2,.pointer (some ⟨x2.1,x2.2,none⟩)),(3,.pointer (some ⟨x3.1,x3.2,none⟩))]).run Tryz.prog w=.ok (.slice (some ⟨w.heap.size,0,none⟩) 4 4) (w.alloc (.cells (([x0,x1,x2,x3]:List (Nat×Nat)).flatMap encFld).toArray 186)):=by kernel_rfl
theorem okQ_high2 {q:Plan} (hq:OkQ q) (n:ByteArray):0≤(getS q.S n).height∧(getS q.S n).height≤3000:=by
 unfold getS
 split
 ·rename_i h
  have hl:sheetJ q.S n < (q.S.length:Int):=Stn.findI_lt _ h
  have:=(sheetP_nums (hq.sh _ (getD_memS (l:=q.S) (i:=(sheetJ q.S n).toNat) (by omega)))).height
  omega
 ·exact⟨by decide,by decide⟩
theorem last_s {q:Plan} {V:List WlC} (hV:V.map (·.s)=q.V) {i:Nat} (hi:i+1=V.length):(V.getD i default).s=q.V.getD (q.V.length - 1) default:=by
 rw [←hV,List.length_map,show V.length - 1=i from by omega,getD_map' (fun z:WlC=>z.s) rfl]
theorem last_ok {q:Plan} {V:List WlC} (hq:OkQ q) (hV:V.map (·.s)=q.V) {i:Nat} (hi:i+1=V.length):(V.getD i default).s.opens.length≤20∧∀ o∈(V.getD i default).s.opens,Knd o:=by
 refine hq.wv _ ?_
 rw [←hV]
 exact List.mem_map_of_mem (getD_memS (by omega))
theorem more_knd {v:Wll} {o:Opn} (h:∀ z∈v.opens,Knd z) (ho:Knd o):∀ z∈(more v o).opens,Knd z:=by
 intro z hz
 rcases List.mem_append.1 hz with h' | h'
 ·exact h z h'
 ·rw [List.mem_singleton] at h'; rw [h']; exact ho
theorem kind_knd {ws:List ByteArray} {x:Int×List ByteArray} (h:kindE opensW 1 ws=.ok x) (a b c d:Int):Knd ⟨x.1,a,b,c,d⟩:=by
 have hk:=kindE_in h
 have:(opensW.length:Int)=5:=rfl
 exact⟨by dsimp only; omega,by dsimp only; omega⟩
theorem set_s {q:Plan} {V:List WlC} (hV:V.map (·.s)=q.V) {i:Nat} (hi:i+1=V.length) (o:Opn) (a:Option Addr) (c:Nat):(V.set i ⟨more (V.getD i default).s o,a,c⟩).map (·.s)=q.V.set (q.V.length - 1) (more (q.V.getD (q.V.length - 1) default) o):=by
 rw [List.map_set,hV,last_s hV hi,show q.V.length - 1=i from by rw [←hV,List.length_map]; omega]
theorem set_at {α:Type} [Inhabited α] {V:List α} {i:Nat} (hi:i+1=V.length) (x:α):(V.set i x).getD i default=x:=by
 rw [List.getD_eq_getElem?_getD,List.getElem?_set_self (by omega)]; rfl
theorem rows_lastN {α:Type} [Inhabited α] {f:α→Res} {V:List α} {i:Nat} {B:Nat→Prop} {w:World} (h:i+1=V.length) (hA:(Go.K.Rows f V).A B w):(SepR [Go.K.Rows f (V.take i),f (V.getD i default)]).A B w:=by
 have h1:=rows_last (f:=f) (by omega) hA
 rwa [show V.length - 1=i from by omega] at h1
theorem rows_setN {α:Type} [Inhabited α] {f:α→Res} {V:List α} {i:Nat} {x:α} {B:Nat→Prop} {w:World} (h:i+1=V.length) (hA:(SepR [Go.K.Rows f (V.take i),f x]).A B w):(Go.K.Rows f (V.set i x)).A B w:=by
 have h0:V.length - 1=i:=by omega
 have h1:=rows_set (f:=f) (V:=V) (x:=x) (by omega) (by rw [h0]; exact hA)
 rwa [h0] at h1
set_option maxRecDepth 100000 in
set_option maxHeartbeats 8000000 in
theorem form3_c (r:Nat) (ws:List ByteArray) (p:Nat) (q:Plan) (bp:Nat) (w:World) (B:Nat→Prop) (hB:∀ k,B k→k < w.heap.size) (hA:(SepR [Rdr 161 r ws,PlP p q]).A B w) (hq:OkQ q) (hb:Rd (fun k=>k < w.heap.size∧¬ B k) w (Box bp [.pointer (some ⟨p,0,none⟩)] 157)) (_hws:ws.length≤100000) (hop:Rd (fun k=>k < w.heap.size∧¬ B k) w (Elems (some ⟨1,0,none⟩) 1 encS opensW)) :
  Calls Tryz.prog 115 #[.pointer (some ⟨r,0,none⟩),.pointer (some ⟨bp,0,none⟩)] w (TurnsF 33 (openLineE q ws) (fun _x (_:Unit)=>.tuple #[]) (fun x _=>PlP p x) (plAt yP p) B w):=by
 refine calls_of_gkB hB hA (vs:=[_,_]) Tryz.func115 rfl rfl (Nat.le_of_ble_eq_true rfl) ?_
 refine gk_split ?_
 refine gk_seq ?_
 refine gk_region ?_
 refine gk_y rfl rfl (y_move rfl) ?_
 refine gk_y rfl rfl (y_sliceArr sa138 rfl) ?_
 refine gk_callE (res:=kindE opensW 1 ws) 0 en116 rfl rfl rfl (fun w B hF=>kind_c r ws (some ⟨1,0,none⟩) 5 opensW 1 w B (fun k hk=>(hF.own k hk).2) hF.A (hF.rd hop) (by decide) (by decide) (by decide)) (fun k hk9=>?_) (fun x9 m9 hx9=>?_)
 ·
  exact gk_thrownF 1 rfl plAt_pl (by rw [openLineE,hk9]; first | done | rfl)
 refine gk_y rfl rfl (y_buildL rfl (bd98_0u _)) ?_
 refine gk_yx rfl rfl (yx_alloc tf98 (zs:=[_,_,_,_,_]) rfl) fun b3=>?_
 refine gk_storeV 0 tf98 rfl rfl (vs:=[_,_,_,_,_]) rfl rfl rfl rfl rfl ?_
 refine gk_nil (gk_sub (T':=[(0,_),(1,_),(3,_)]) ⟨rfl,rfl,rfl,trivial⟩ ?_)
 refine gk_seq ?_
 refine gk_region ?_
 refine gk_y rfl rfl (y_move rfl) ?_
 refine gk_y rfl rfl (y_fieldAddr fo98_1 rfl) ?_
 refine gk_y rfl rfl (y_fieldAddr fo98_2 rfl) ?_
 refine gk_y rfl rfl (y_fieldAddr fo98_3 rfl) ?_
 refine gk_y rfl rfl (y_fieldAddr fo98_4 rfl) ?_
 refine gk_yx rfl rfl (yx_buildSlice rfl (bs206_4 (b3,1) (b3,2) (b3,3) (b3,4)) encFld_ok rfl) fun b16=>?_
 refine gk_front 1 rfl ?_
 refine gk_front 2 rfl ?_
 refine gk_pack 2 ?_
 refine gk_callE (res:=numsE 4 x9.2) 0 en114 rfl rfl rfl (fun w B hF=>numbers_c r x9.2 b3 [.int .u8 x9.1,.int .i64 0,.int .i64 0,.int .i64 0,.int .i64 0] 98 [1,2,3,4] [(b3,1),(b3,2),(b3,3),(b3,4)] _ _ w B (fun k hk=>(hF.own k hk).2) hF.A (rd_row encFld_ok (hF.other 0 rfl)) rfl (by intro o ho; simp at ho; simp; omega) (by simp [Small])) (fun k hk17=>?_) (fun x17 m17 hx17=>?_)
 ·
  exact gk_thrownF 2 rfl plAt_pl (by rw [openLineE,hx9,ok_bind,hk17]; first | done | rfl)
 refine gk_split ?_
 refine gk_conv (R':=Box b3 [.int .u8 x9.1,.int .i64 ((x17.1).getD 0 0),.int .i64 (((x17.1.drop 1)).getD 0 0),.int .i64 ((((x17.1.drop 1).drop 1)).getD 0 0),.int .i64 (((((x17.1.drop 1).drop 1).drop 1)).getD 0 0)] 98) 1 rfl (fun B w hA=>hA) ?_
 refine gk_dropAt 2 rfl ?_
 refine gk_nil (gk_sub (T':=[(0,_),(1,_),(3,_)]) ⟨rfl,rfl,rfl,trivial⟩ ?_)
 refine gk_seq ?_
 refine gk_region ?_
 refine gk_y rfl rfl (y_move rfl) ?_
 refine gk_callE (res:=endE x17.2) 0 en111 rfl rfl rfl (fun w B hF=>end_c r x17.2 w B (fun k hk=>(hF.own k hk).2) hF.A) (fun k hk19=>?_) (fun x19 m19 hx19=>?_)
 ·
  exact gk_thrownF 2 rfl plAt_pl (by rw [openLineE,hx9,ok_bind,hx17,ok_bind,hk19]; first | done | rfl)
 refine gk_nil (gk_sub (T':=[(1,_),(3,_)]) ⟨rfl,rfl,trivial⟩ ?_)
 refine gk_front 2 rfl ?_
 refine gk_openPl fun sa sc S wa wc V hS hV=>?_
 have hlS:S.length=q.S.length:=by rw [←hS,List.length_map]
 have hlV:V.length=q.V.length:=by rw [←hV,List.length_map]
 have hq20:=hq.ls
 have hq50:=hq.lv
 refine gk_seq ?_
 refine gk_seq ?_
 refine gk_region ?_
 refine gk_y rfl rfl (y_load1 tf157 rfl (fun _ hw=>has_box_cell (Rd.has hb hw) rfl)) ?_
 refine gk_y rfl rfl (y_nilCheck rfl) ?_
 refine gk_y rfl rfl (y_fieldAddr fo31_1 rfl) ?_
 refine gk_y rfl rfl (y_loadB1 0 tf29 rfl rfl rfl) ?_
 refine gk_y rfl rfl (y_lenS (Tryz.underlying29) rfl) ?_
 refine gk_y rfl rfl (y_eql rfl rfl) ?_
 refine gk_nil (gk_sub (T':=[(1,_),(3,_),(25,_)]) ⟨rfl,rfl,rfl,trivial⟩ ?_)
 refine gk_cond rfl (fun hc25=>?_) (fun hc25=>?_)
 ·have h25:q.V.length=0:=by have:=of_decide_eq_true hc25; omega
  refine gk_region ?_
  refine gk_callP en91 rfl (fun w hw=>fail_c _ w) ?_
  exact gk_thrownF 0 rfl (plAt_box (y:=yP)) (by rw [openLineE,hx9,ok_bind,hx17,ok_bind,hx19,ok_bind]; exact if_pos h25)
 ·have h25:¬ q.V.length=0:=by have:=of_decide_eq_false hc25; omega
  refine gk_skip ?_
  refine gk_seq ?_
  refine gk_any 12 (fun _=>mixed) (by kernel_rfl) ?_
  refine ph_y (y_load1 tf157 rfl (fun _ hw=>has_box_cell (Rd.has hb hw) rfl)) ?_
  refine ph_y (y_nilCheck rfl) ?_
  refine ph_y (y_fieldAddr fo31_1 rfl) ?_
  refine ph_y (y_loadB1 0 tf29 rfl rfl rfl) ?_
  refine ph_y (y_load1 tf157 rfl (fun _ hw=>has_box_cell (Rd.has hb hw) rfl)) ?_
  refine ph_y (y_nilCheck rfl) ?_
  refine ph_y (y_fieldAddr fo31_1 rfl) ?_
  refine ph_y (y_loadB1 0 tf29 rfl rfl rfl) ?_
  refine ph_y (y_lenS (Tryz.underlying29) rfl) ?_
  refine ph_y (y_subI rfl rfl (by omega) (by omega)) ?_
  refine ph_y (y_indexE se29 rfl rfl (fun _ hw=>(has_row encWll_ok (hw.has (p:=3) rfl))) (by omega) (by omega)) ?_
  refine ph_y (y_assign rfl) ?_
  refine gk_nil (gk_sub (T':=[(1,_),(3,_),(4,_)]) ⟨rfl,rfl,rfl,trivial⟩ ?_)
  have hi0:((V.length:Int) - 1).toNat+1=V.length:=by omega
  refine gk_seq ?_
  refine gk_any3 (ch [(11,Nat)]) 14 [0,1,3,0,8,24,56,127,255,511,511,0,3071,8191] (fun _=>mixed) (by kernel_rfl) (ch_ne _ ⟨inferInstance,trivial⟩) ?_
  refine ph3_y (fun ρ=>y_load1 tf157 rfl (fun _ hw=>has_box_cell (Rd.has hb hw) rfl)) (fun ρ ρ' h=>by rfl) ?_
  refine ph3_y (fun ρ=>y_nilCheck rfl) (fun ρ ρ' h=>by rfl) ?_
  refine ph3_y (fun ρ=>y_loadBA 0 tf31 rfl rfl (vs:=[_,_]) rfl rfl) (fun ρ ρ' h=>by rfl) ?_
  refine ph3_y (fun ρ=>y_move rfl) (fun ρ ρ' h=>by rfl) ?_
  refine ph3_y (fun ρ=>y_nilCheckE rfl (fun w hw=>elems_addr (i:=((V.length:Int) - 1)) (has_row encWll_ok (hw.has (p:=3) rfl)) (by omega) (by omega))) (fun ρ ρ' h=>by rfl) ?_
  refine ph3_y (fun ρ=>y_fieldE fo94_1 rfl (fun w hw=>elems_addr (i:=((V.length:Int) - 1)) (has_row encWll_ok (hw.has (p:=3) rfl)) (by omega) (by omega))) (fun ρ ρ' h=>by rfl) ?_
  refine ph3_y (fun ρ=>y_loadEF tf9 rfl (fun _ hw=>(has_row encWll_ok (hw.has (p:=3) rfl))) (by omega) (by omega) rfl) (fun ρ ρ' h=>by rfl) ?_
  refine ph3_y (fun ρ=>y_call en46 rfl (fun w hw=>plsheet_c _ _ S _ _ _ ((V.getD (((V.length:Int) - 1)).toNat default).s.sheet) w (has_row encSht_ok (hw.has (p:=1) rfl)) (by unfold Small; omega))) (fun ρ ρ' h=>by rfl) ?_
  refine ph3_y (fun ρ=>y_move rfl) (fun ρ ρ' h=>by rfl) ?_
  refine ph3_y (fun ρ=>y_extract rfl rfl) (fun ρ ρ' h=>by rfl) ?_
  refine ph3_y (fun ρ=>y_extract rfl rfl) (fun ρ ρ' h=>by rfl) ?_
  refine ph3_yx (fun ρ=>yx_alloc tf41 (zs:=[_,_,_,_,_,_,_,_,_,_,_,_,_,_,_,_,_,_,_,_]) rfl) (fun ρ ρ' h=>⟨by rfl,by rfl⟩) ?_
  refine ph3_st (R:=fun ρ=>Box (ρ 11) [.string ⟨#[]⟩,.int .i64 0,.int .i64 0,.int .i64 0,.int .i64 0,.slice none 0 0,.int .i64 0,.int .i64 0,.int .i64 0,.int .i64 0,.int .i64 0,.int .i64 0,.int .i64 0,.int .u8 0,.int .i64 0,.int .i64 0,.int .i64 0,.int .i64 0,.int .i64 0,.int .i64 0] 41) (A:=fun ρ=>Box (ρ 11) [.string (getSh S ((V.getD (((V.length:Int) - 1)).toNat default).s.sheet)).s.name,.int .i64 ((getSh S ((V.getD (((V.length:Int) - 1)).toNat default).s.sheet)).s.base),.int .i64 ((getSh S ((V.getD (((V.length:Int) - 1)).toNat default).s.sheet)).s.batter),.int .i64 ((getSh S ((V.getD (((V.length:Int) - 1)).toNat default).s.sheet)).s.height),.int .i64 ((getSh S ((V.getD (((V.length:Int) - 1)).toNat default).s.sheet)).s.skin),.slice (getSh S ((V.getD (((V.length:Int) - 1)).toNat default).s.sheet)).a (getSh S ((V.getD (((V.length:Int) - 1)).toNat default).s.sheet)).s.heights.length (getSh S ((V.getD (((V.length:Int) - 1)).toNat default).s.sheet)).cap,.int .i64 ((getSh S ((V.getD (((V.length:Int) - 1)).toNat default).s.sheet)).s.least),.int .i64 ((getSh S ((V.getD (((V.length:Int) - 1)).toNat default).s.sheet)).s.lap),.int .i64 ((getSh S ((V.getD (((V.length:Int) - 1)).toNat default).s.sheet)).s.run),.int .i64 ((getSh S ((V.getD (((V.length:Int) - 1)).toNat default).s.sheet)).s.every),.int .i64 ((getSh S ((V.getD (((V.length:Int) - 1)).toNat default).s.sheet)).s.at_),.int .i64 ((getSh S ((V.getD (((V.length:Int) - 1)).toNat default).s.sheet)).s.footing),.int .i64 ((getSh S ((V.getD (((V.length:Int) - 1)).toNat default).s.sheet)).s.spread),.int .u8 (getSh S ((V.getD (((V.length:Int) - 1)).toNat default).s.sheet)).s.cope,.int .i64 ((getSh S ((V.getD (((V.length:Int) - 1)).toNat default).s.sheet)).s.tall),.int .i64 ((getSh S ((V.getD (((V.length:Int) - 1)).toNat default).s.sheet)).s.short),.int .i64 ((getSh S ((V.getD (((V.length:Int) - 1)).toNat default).s.sheet)).s.thick),.int .i64 ((getSh S ((V.getD (((V.length:Int) - 1)).toNat default).s.sheet)).s.low),.int .i64 ((getSh S ((V.getD (((V.length:Int) - 1)).toNat default).s.sheet)).s.high),.int .i64 ((getSh S ((V.getD (((V.length:Int) - 1)).toNat default).s.sheet)).s.rood)] 41) 11 rfl rfl (fun _=>rfl) (fun ρ=>so_box tf41 rfl rfl (vs:=[_,_,_,_,_,_,_,_,_,_,_,_,_,_,_,_,_,_,_,_]) rfl rfl rfl rfl rfl) (fun ρ ρ' h=>by(first | rfl | simp only [h 11 rfl])) ?_
  refine ph3_y (fun ρ=>y_assign rfl) (fun ρ ρ' h=>by rfl) ?_
  refine fun ρ=>gk_nil (gk_name (X:=Nat) (ρ 11) (fun b5=>[(3,.pointer (some ⟨b3,0,none⟩)),(4,(epx wa (((V.length:Int) - 1).toNat*4))),(5,.pointer (some ⟨b5,0,none⟩))]) (fun b5=>[Box b5 [.string (getSh S ((V.getD (((V.length:Int) - 1)).toNat default).s.sheet)).s.name,.int .i64 ((getSh S ((V.getD (((V.length:Int) - 1)).toNat default).s.sheet)).s.base),.int .i64 ((getSh S ((V.getD (((V.length:Int) - 1)).toNat default).s.sheet)).s.batter),.int .i64 ((getSh S ((V.getD (((V.length:Int) - 1)).toNat default).s.sheet)).s.height),.int .i64 ((getSh S ((V.getD (((V.length:Int) - 1)).toNat default).s.sheet)).s.skin),.slice (getSh S ((V.getD (((V.length:Int) - 1)).toNat default).s.sheet)).a (getSh S ((V.getD (((V.length:Int) - 1)).toNat default).s.sheet)).s.heights.length (getSh S ((V.getD (((V.length:Int) - 1)).toNat default).s.sheet)).cap,.int .i64 ((getSh S ((V.getD (((V.length:Int) - 1)).toNat default).s.sheet)).s.least),.int .i64 ((getSh S ((V.getD (((V.length:Int) - 1)).toNat default).s.sheet)).s.lap),.int .i64 ((getSh S ((V.getD (((V.length:Int) - 1)).toNat default).s.sheet)).s.run),.int .i64 ((getSh S ((V.getD (((V.length:Int) - 1)).toNat default).s.sheet)).s.every),.int .i64 ((getSh S ((V.getD (((V.length:Int) - 1)).toNat default).s.sheet)).s.at_),.int .i64 ((getSh S ((V.getD (((V.length:Int) - 1)).toNat default).s.sheet)).s.footing),.int .i64 ((getSh S ((V.getD (((V.length:Int) - 1)).toNat default).s.sheet)).s.spread),.int .u8 (getSh S ((V.getD (((V.length:Int) - 1)).toNat default).s.sheet)).s.cope,.int .i64 ((getSh S ((V.getD (((V.length:Int) - 1)).toNat default).s.sheet)).s.tall),.int .i64 ((getSh S ((V.getD (((V.length:Int) - 1)).toNat default).s.sheet)).s.short),.int .i64 ((getSh S ((V.getD (((V.length:Int) - 1)).toNat default).s.sheet)).s.thick),.int .i64 ((getSh S ((V.getD (((V.length:Int) - 1)).toNat default).s.sheet)).s.low),.int .i64 ((getSh S ((V.getD (((V.length:Int) - 1)).toNat default).s.sheet)).s.high),.int .i64 ((getSh S ((V.getD (((V.length:Int) - 1)).toNat default).s.sheet)).s.rood)] 41,Box p [.slice sa S.length sc,.slice wa V.length wc] 31,Row sa 20 sc 41 encSht S,Go.K.Rows (rowH 3) S,Row wa 4 wc 94 encWll V,Go.K.Rows (rowO 98) V,Rdr 161 r x19.2,Box b3 [.int .u8 x9.1,.int .i64 ((x17.1).getD 0 0),.int .i64 (((x17.1.drop 1)).getD 0 0),.int .i64 ((((x17.1.drop 1).drop 1)).getD 0 0),.int .i64 (((((x17.1.drop 1).drop 1).drop 1)).getD 0 0)] 98]) ⟨rfl,rfl,rfl,trivial⟩ rfl ?_)
  rintro b5
  refine gk_front 5 rfl ?_
  refine gk_conv (R':=SepR [Go.K.Rows (rowO 98) (V.take ((V.length:Int) - 1).toNat),Row (V.getD ((V.length:Int) - 1).toNat default).a 5 (V.getD ((V.length:Int) - 1).toNat default).cap 98 encOpn (V.getD ((V.length:Int) - 1).toNat default).s.opens]) 0 rfl (fun B w hA=>rows_lastN (f:=rowO 98) hi0 hA) ?_
  refine gk_split ?_
  have hlo:=(last_ok hq hV hi0).1
  refine gk_seq ?_
  refine gk_anyC (V:=fun z=>.slice z.1 (((V.getD ((V.length:Int) - 1).toNat default).s.opens++[(⟨x9.1,((x17.1).getD 0 0),(((x17.1.drop 1)).getD 0 0),((((x17.1.drop 1).drop 1)).getD 0 0),(((((x17.1.drop 1).drop 1).drop 1)).getD 0 0)⟩:Opn)])).length z.2) (R':=fun z:Option Addr×Nat=>Row z.1 5 z.2 98 encOpn ((V.getD ((V.length:Int) - 1).toNat default).s.opens++[(⟨x9.1,((x17.1).getD 0 0),(((x17.1.drop 1)).getD 0 0),((((x17.1.drop 1).drop 1)).getD 0 0),(((((x17.1.drop 1).drop 1).drop 1)).getD 0 0)⟩:Opn)])) (Bad:=fun _=>False) 7 [0] 1 56 (fun _=>mixed) rfl rfl (by kernel_rfl) rfl (fun _ hb=>hb.elim) rfl ?_
  refine phs_y (y_move rfl) ?_
  refine phs_y (y_move rfl) ?_
  refine phs_y (y_nilCheckE rfl (fun w hw=>elems_addr (i:=((V.length:Int) - 1)) (has_row encWll_ok (hw.has (p:=6) rfl)) (by omega) (by omega))) ?_
  refine phs_y (y_fieldE fo94_3 rfl (fun w hw=>elems_addr (i:=((V.length:Int) - 1)) (has_row encWll_ok (hw.has (p:=6) rfl)) (by omega) (by omega))) ?_
  refine phs_y (y_loadEF tf92 rfl (fun _ hw=>(has_row encWll_ok (hw.has (p:=6) rfl))) (by omega) (by omega) rfl) ?_
  refine phs_y (y_loadBA 8 tf98 rfl rfl (vs:=[_,_,_,_,_]) rfl rfl) ?_
  refine phs_yx (yx_buildSlice rfl (bs92_1 _ _ _ _ _) encOpn_ok rfl) ?_
  refine⟨fun b55=>co_append (m:=[(⟨x9.1,((x17.1).getD 0 0),(((x17.1.drop 1)).getD 0 0),((((x17.1.drop 1).drop 1)).getD 0 0),(((((x17.1.drop 1).drop 1).drop 1)).getD 0 0)⟩:Opn)]) af92 encOpn_ok rfl rfl (fun _ hw=>(has_row encOpn_ok (hw.has (p:=0) rfl))) (by first | omega | (simp only [List.length_cons,List.length_nil]; omega)) (by first | (unfold maxLen; omega) | (simp only [List.length_cons,List.length_nil,maxLen]; omega)),?_⟩
  intro z56
  intro b55
  refine gk_sub (T':=[(4,_),(5,_),(49,_),(56,_)]) ⟨rfl,rfl,rfl,rfl,trivial⟩ ?_
  refine gk_y rfl rfl (y_nilCheckE rfl (fun w hw=>elems_addr (i:=((V.length:Int) - 1)) (has_row encWll_ok (hw.has (p:=7) rfl)) (by omega) (by omega))) ?_
  refine gk_y rfl rfl (y_fieldE fo94_3 rfl (fun w hw=>elems_addr (i:=((V.length:Int) - 1)) (has_row encWll_ok (hw.has (p:=7) rfl)) (by omega) (by omega))) ?_
  refine gk_storeEF (x':=(⟨more (V.getD (((V.length:Int) - 1)).toNat default).s (⟨x9.1,(x17.1).getD 0 0,((x17.1).drop 1).getD 0 0,(((x17.1).drop 1).drop 1).getD 0 0,((((x17.1).drop 1).drop 1).drop 1).getD 0 0⟩:Opn),z56.1,z56.2⟩:WlC)) 7 encWll_ok tf92 rfl rfl (vs:=[_]) rfl rfl (by decide) rfl rfl (by omega) (by omega) ?_
  refine gk_nil (gk_sub (T':=[(4,_),(5,_)]) ⟨rfl,rfl,trivial⟩ ?_)
  have hY:((V.set ((V.length:Int) - 1).toNat (⟨more (V.getD ((V.length:Int) - 1).toNat default).s (⟨x9.1,(x17.1).getD 0 0,((x17.1).drop 1).getD 0 0,(((x17.1).drop 1).drop 1).getD 0 0,((((x17.1).drop 1).drop 1).drop 1).getD 0 0⟩:Opn),z56.1,z56.2⟩:WlC)).getD ((V.length:Int) - 1).toNat default)=⟨more (V.getD ((V.length:Int) - 1).toNat default).s (⟨x9.1,(x17.1).getD 0 0,((x17.1).drop 1).getD 0 0,(((x17.1).drop 1).drop 1).getD 0 0,((((x17.1).drop 1).drop 1).drop 1).getD 0 0⟩:Opn),z56.1,z56.2⟩:=set_at hi0 _
  have hlN:(V.set ((V.length:Int) - 1).toNat (⟨more (V.getD ((V.length:Int) - 1).toNat default).s (⟨x9.1,(x17.1).getD 0 0,((x17.1).drop 1).getD 0 0,(((x17.1).drop 1).drop 1).getD 0 0,((((x17.1).drop 1).drop 1).drop 1).getD 0 0⟩:Opn),z56.1,z56.2⟩:WlC)).length=V.length:=List.length_set
  refine gk_seq ?_
  refine gk_any 6 (fun _=>mixed) (by kernel_rfl) ?_
  refine ph_y (y_move rfl) ?_
  refine ph_y (y_nilCheckE rfl (fun w hw=>elems_addr (i:=((V.length:Int) - 1)) (has_row encWll_ok (hw.has (p:=7) rfl)) (by omega) (by omega))) ?_
  refine ph_y (y_loadE (vs:=[_,_,_,_]) tf94 rfl (fun _ hw=>(has_row encWll_ok (hw.has (p:=7) rfl))) (by omega) (by omega) rfl) ?_
  refine ph_y (y_loadBA 3 tf41 rfl rfl (vs:=[_,_,_,_,_,_,_,_,_,_,_,_,_,_,_,_,_,_,_,_]) rfl rfl) ?_
  refine ph_y (y_call en48 rfl (fun w hw=>valid_c _ _ ((V.set ((V.length:Int) - 1).toNat (⟨more (V.getD ((V.length:Int) - 1).toNat default).s (⟨x9.1,(x17.1).getD 0 0,((x17.1).drop 1).getD 0 0,(((x17.1).drop 1).drop 1).getD 0 0,((((x17.1).drop 1).drop 1).drop 1).getD 0 0⟩:Opn),z56.1,z56.2⟩:WlC)).getD ((V.length:Int) - 1).toNat default).s _ _ (getSh S (V.getD ((V.length:Int) - 1).toNat default).s.sheet).s w (by rw [hY]; exact(has_row encOpn_ok (hw.has (p:=2) rfl))) (by rw [hY]; exact row_cap (hw.has (p:=2) rfl)) (by rw [hY]; have:=(last_ok hq hV hi0).1; unfold Small more; simp only [List.length_append,List.length_cons,List.length_nil]; omega) (by rw [hY]; exact more_knd (last_ok hq hV hi0).2 (kind_knd hx9 _ _ _ _)) (by rw [getSh_S,hS]; exact okQ_high2 hq _))) ?_
  refine ph_y (y_not rfl) ?_
  refine gk_nil (gk_sub (T':=[(64,_)]) ⟨rfl,trivial⟩ ?_)
  refine gk_front 2 rfl ?_
  refine gk_front 2 rfl ?_
  refine gk_pack 2 ?_
  refine gk_conv (R':=Go.K.Rows (rowO 98) (V.set ((V.length:Int) - 1).toNat (⟨more (V.getD ((V.length:Int) - 1).toNat default).s (⟨x9.1,(x17.1).getD 0 0,((x17.1).drop 1).getD 0 0,(((x17.1).drop 1).drop 1).getD 0 0,((((x17.1).drop 1).drop 1).drop 1).getD 0 0⟩:Opn),z56.1,z56.2⟩:WlC))) 0 rfl (fun B w hA=>rows_setN (f:=rowO 98) hi0 hA) ?_
  refine gk_conv (R':=Box p [.slice sa S.length sc,.slice wa (V.set ((V.length:Int) - 1).toNat (⟨more (V.getD ((V.length:Int) - 1).toNat default).s (⟨x9.1,(x17.1).getD 0 0,((x17.1).drop 1).getD 0 0,(((x17.1).drop 1).drop 1).getD 0 0,((((x17.1).drop 1).drop 1).drop 1).getD 0 0⟩:Opn),z56.1,z56.2⟩:WlC)).length wc] 31) 3 rfl (fun B w hA=>by rw [hlN]; exact hA) ?_
  refine gk_front 6 rfl ?_
  refine gk_front 6 rfl ?_
  refine gk_front 6 rfl ?_
  refine gk_front 6 rfl ?_
  refine gk_closePl (y:=yP) (q:=⟨q.S,q.V.set (q.V.length - 1) (more (q.V.getD (q.V.length - 1) default) (⟨x9.1,(x17.1).getD 0 0,((x17.1).drop 1).getD 0 0,(((x17.1).drop 1).drop 1).getD 0 0,((((x17.1).drop 1).drop 1).drop 1).getD 0 0⟩:Opn))⟩) (hS) (set_s hV hi0 _ _ _) ?_
  rw [getSh_S,hS,hY,last_s hV hi0]
  refine gk_cond rfl (fun hc64=>?_) (fun hc64=>?_)
  ·have h64:¬ wallB (getS q.S (q.V.getD (q.V.length - 1) default).sheet).height (more (q.V.getD (q.V.length - 1) default) (⟨x9.1,(x17.1).getD 0 0,((x17.1).drop 1).getD 0 0,(((x17.1).drop 1).drop 1).getD 0 0,((((x17.1).drop 1).drop 1).drop 1).getD 0 0⟩:Opn))=true:=by simpa using hc64
   refine gk_region ?_
   refine gk_callP en91 rfl (fun w hw=>fail_c _ w) ?_
   exact gk_thrownF 0 rfl plAt_pl (by rw [openLineE,hx9,ok_bind,hx17,ok_bind,hx19,ok_bind]; exact(if_neg h25).trans (if_neg h64))
  ·have h64:wallB (getS q.S (q.V.getD (q.V.length - 1) default).sheet).height (more (q.V.getD (q.V.length - 1) default) (⟨x9.1,(x17.1).getD 0 0,((x17.1).drop 1).getD 0 0,(((x17.1).drop 1).drop 1).getD 0 0,((((x17.1).drop 1).drop 1).drop 1).getD 0 0⟩:Opn))=true:=by simpa using hc64
   refine gk_skip ?_
   exact gk_turnsF ⟨q.S,q.V.set (q.V.length - 1) (more (q.V.getD (q.V.length - 1) default) (⟨x9.1,(x17.1).getD 0 0,((x17.1).drop 1).getD 0 0,(((x17.1).drop 1).drop 1).getD 0 0,((((x17.1).drop 1).drop 1).drop 1).getD 0 0⟩:Opn))⟩ () 0 (rv_none rfl) rfl rfl (by rw [openLineE,hx9,ok_bind,hx17,ok_bind,hx19,ok_bind]; exact(if_neg h25).trans (if_pos h64))
end Go.Proofs.YtdcfcfhmkfkgmaaGreatDoor
namespace Go.Proofs.YtdcfcfhmkfkgmaaGreatDoor
open Go.K Go.Stn Go.Pln Go.RowKit
theorem tf33:TF Tryz.prog 33 false 1 (.int IntKind.i64 0):=⟨by kernel_rfl,by kernel_rfl⟩
theorem mt164:MT Tryz.prog 164 9 162 1 false (.nilFunc):=⟨Tryz.underlying164,Tryz.underlying9,⟨by kernel_rfl,by kernel_rfl⟩⟩
set_option maxRecDepth 100000 in
theorem line1_thrown {c:Cx} (hP:c.P=Tryz.prog) {H:List Res} {b:Nat} {k0 k:Int} {w:World} (hw:Hp c.U c.w0 (Box b [.int .i64 k0] 33 :: H) w) :
  CallsDIn Fence.wide 0 c.P 87 [.pointer (some ⟨b,0,none⟩)].toArray (.panicking (thrC (errT 33 k))) w (fun e u' w'=>(∃ v,e=.returned v)∧settle u' = .returning∧Hp c.U c.w0 (Box b [.int .i64 k] 33 :: H) w'):=by
 rw [hP]
 refine CallsDIn.mono (deferred_of_gk (c:=⟨none,Tryz.prog,11,c.U,c.w0⟩) (H':=Box b [.int .i64 k] 33 :: H) (vs:=[_]) rfl Tryz.func87 rfl rfl (Nat.le_of_ble_eq_true rfl) (Nat.le_of_ble_eq_true rfl) (fun c₀ cs h=>.inl (rec_thrown c₀ cs h)) hw ?_) ?_
 ·refine gk_block ?_
  refine gk_seq ?_
  refine gk_region ?_
  refine gk_y rfl rfl (y_ifaceNil (by first | exact Tryz.underlying20 | kernel_rfl) rfl (.inr ⟨_,_,rfl⟩)) ?_
  refine gk_nil (gk_sub (T':=[(0,_),(4,_),(6,_)]) ⟨rfl,rfl,rfl,trivial⟩ ?_)
  refine gk_condF rfl ?_
  refine gk_seq ?_
  refine gk_region ?_
  refine gk_y rfl rfl (y_typeAssert if33 rfl) ?_
  refine gk_y rfl rfl (y_extract rfl rfl) ?_
  refine gk_y rfl rfl (y_extract rfl rfl) ?_
  refine gk_nil (gk_sub (T':=[(0,_),(8,_),(9,_)]) ⟨rfl,rfl,rfl,trivial⟩ ?_)
  refine gk_condT rfl ?_
  refine gk_seq ?_
  refine gk_region ?_
  refine gk_y rfl rfl (y_assign rfl) ?_
  refine gk_nil (gk_sub (T':=[(0,_),(2,_)]) ⟨rfl,rfl,trivial⟩ ?_)
  refine gk_region ?_
  refine gk_y rfl rfl (y_move rfl) ?_
  refine gk_storeV 0 tf33 rfl rfl (vs:=[_]) rfl rfl rfl rfl rfl ?_
  refine gk_nil ?_
  exact gk_dr (rv_none rfl)
 ·rintro e u w' ⟨h1,rfl,h3⟩
  exact⟨h1,settle_rec,h3⟩
set_option maxRecDepth 100000 in
theorem line1_done {c:Cx} (hP:c.P=Tryz.prog) {H:List Res} {b:Nat} {w:World} (hw:Hp c.U c.w0 H w) :
  CallsDIn Fence.wide 0 c.P 87 [.pointer (some ⟨b,0,none⟩)].toArray .returning w (fun e u' w'=>(∃ v,e=.returned v)∧settle u' = .returning∧Hp c.U c.w0 H w'):=by
 rw [hP]
 refine CallsDIn.mono (deferred_of_gk (c:=⟨none,Tryz.prog,11,c.U,c.w0⟩) (H':=H) (vs:=[_]) rfl Tryz.func87 rfl rfl (Nat.le_of_ble_eq_true rfl) (Nat.le_of_ble_eq_true rfl) (fun c₀ cs h=>.inr ⟨rec_returning c₀ cs h,rfl,rfl⟩) hw ?_) ?_
 ·refine gk_block ?_
  refine gk_seq ?_
  refine gk_region ?_
  refine gk_y rfl rfl (y_ifaceNil (by first | exact Tryz.underlying20 | kernel_rfl) rfl (.inl rfl)) ?_
  refine gk_nil (gk_sub (T':=[(0,_),(4,_),(6,_)]) ⟨rfl,rfl,rfl,trivial⟩ ?_)
  refine gk_condT rfl ?_
  refine gk_region ?_
  refine gk_y rfl rfl (y_assign rfl) ?_
  refine gk_nil ?_
  exact gk_dr (rv_none rfl)
 ·rintro e u w' ⟨h1,rfl,h3⟩
  exact⟨h1,rfl,h3⟩
def formsL (b:Nat):List (ByteArray×Value):=[(⟨#[115,104,101,101,116]⟩,.func (.func 109) #[] #[.pointer (some ⟨b,0,none⟩)]),(⟨#[119,97,108,108]⟩,.func (.func 112) #[] #[.pointer (some ⟨b,0,none⟩)]),(⟨#[111,112,101,110]⟩,.func (.func 115) #[] #[.pointer (some ⟨b,0,none⟩)])]
abbrev FormsR (z:Nat×Nat) (p:Nat):Res:=SepR [MapR z.1 (formsL z.2),Box z.2 [.pointer (some ⟨p,0,none⟩)] 157]
set_option maxRecDepth 100000 in
set_option maxHeartbeats 1000000 in
theorem forms_c (p:Nat) (w:World)  :
  Calls Tryz.prog 89 #[.pointer (some ⟨p,0,none⟩)] w (Gives (fun z:Nat×Nat=>.map (some z.1)) (fun z=>FormsR z p) w):=by
 refine calls_of_gk (vs:=[_]) Tryz.func89 rfl rfl (Nat.le_of_ble_eq_true rfl) ?_
 refine gk_seq ?_
 refine gk_region ?_
 refine gk_yx rfl rfl (yx_box (vs:=[_]) rfl rfl) fun b1=>?_
 refine gk_y rfl rfl (y_assign rfl) ?_
 refine gk_nil (gk_sub (T':=[(1,_),(2,_)]) ⟨rfl,rfl,trivial⟩ ?_)
 refine gk_seq ?_
 refine gk_region ?_
 refine gk_yx rfl rfl (yx_makeMapV) fun b3=>?_
 refine gk_y rfl rfl (y_makeFunc («as»:=[]) (bs:=[_]) rfl rfl) ?_
 refine gk_insert 0 mt164 rfl rfl rfl rfl (by rfl) ?_
 refine gk_y rfl rfl (y_makeFunc («as»:=[]) (bs:=[_]) rfl rfl) ?_
 refine gk_insert 0 mt164 rfl rfl rfl rfl (by show mget [_] _=none; rw [mget,if_neg (show ¬ ((⟨#[119,97,108,108]⟩:ByteArray) == ⟨#[115,104,101,101,116]⟩)=true by decide)]; rfl) ?_
 refine gk_y rfl rfl (y_makeFunc («as»:=[]) (bs:=[_]) rfl rfl) ?_
 refine gk_insert 0 mt164 rfl rfl rfl rfl (by show mget [_,_] _=none; rw [mget,if_neg (show ¬ ((⟨#[111,112,101,110]⟩:ByteArray) == ⟨#[115,104,101,101,116]⟩)=true by decide),mget,if_neg (show ¬ ((⟨#[111,112,101,110]⟩:ByteArray) == ⟨#[119,97,108,108]⟩)=true by decide)]; rfl) ?_
 refine gk_y rfl rfl (y_move rfl) ?_
 refine gk_y rfl rfl (y_assign rfl) ?_
 refine gk_nil (gk_sub (T':=[(2,_)]) ⟨rfl,trivial⟩ ?_)
 refine gk_front 1 rfl ?_
 refine gk_front 1 rfl ?_
 refine gk_pack 2 ?_
 refine gk_conv (R':=FormsR (b3,b1) p) 0 rfl (fun B w hA=>hA) ?_
 refine gk_ret ?_
 exact gk_gives (b3,b1) 0 (rv_one rfl (r1_tmp rfl)) rfl rfl
end Go.Proofs.YtdcfcfhmkfkgmaaGreatDoor
namespace Go.Proofs.YtdcfcfhmkfkgmaaGreatDoor
open Go.K Go.Stn Go.Pln Go.RowKit
theorem en87:En Tryz.prog 87:=en_of Tryz.func87 (by kernel_rfl) (by kernel_rfl)
theorem en88:En Tryz.prog 88:=en_of Tryz.func88 (by kernel_rfl) (by kernel_rfl)
theorem en89:En Tryz.prog 89:=en_of Tryz.func89 (by kernel_rfl) (by kernel_rfl)
theorem en109:En Tryz.prog 109:=en_of Tryz.func109 (by kernel_rfl) (by kernel_rfl)
theorem en112:En Tryz.prog 112:=en_of Tryz.func112 (by kernel_rfl) (by kernel_rfl)
theorem en115:En Tryz.prog 115:=en_of Tryz.func115 (by kernel_rfl) (by kernel_rfl)
theorem bd161_0l (x0a:Option Addr) (x0n x0c:Nat) (w:World):(Instr.build 161 #[(0,.slice x0a x0n x0c)]).run Tryz.prog w=.ok (.agg #[.slice x0a x0n x0c]) w:=by kernel_rfl
theorem line_err {p:Nat} {q:Plan} {t:ByteArray} {P:Program} {n:Nat} {w w':World} {B:Nat→Prop} {H:List Res} {k:Int} {R:Res} (i:Nat) (hi:H[i]?=some R) (hR:∀ B w,R.A B w→(plAt yP p).A B w) (he:lineE q t=.error k) (hw:Hp (cxB P n w B).U (cxB P n w B).w0 H w') :
  Turns (fun _:Unit=>.int .i64 (codeE (lineE q t))) (fun _=>plOr yP p (lineE q t)) (fun _=>True) B w (.returned (.int .i64 k)) w':=by
 rw [he]
 obtain⟨B',h1,h2,_,h3⟩:=own_of_hp hw hi
 exact⟨(),B',rfl,trivial,h1,h2,hR _ _ h3⟩
theorem line_ok {p:Nat} {q q':Plan} {t:ByteArray} {P:Program} {n:Nat} {w w':World} {B:Nat→Prop} {H:List Res} {i:Nat} (he:lineE q t=.ok q') (hw:Hp (cxB P n w B).U (cxB P n w B).w0 H w') (hi:H[i]?=some (PlE yP p q')) :
  Turns (fun _:Unit=>.int .i64 (codeE (lineE q t))) (fun _=>plOr yP p (lineE q t)) (fun _=>True) B w (.returned (.int .i64 0)) w':=by
 rw [he]
 obtain⟨B',h1,h2,_,h3⟩:=own_of_hp hw hi
 exact⟨(),B',rfl,trivial,h1,h2,h3⟩
theorem formsL_some {b:Nat} {u:ByteArray} (h:(mget (formsL b) u).isSome=true) :
  ((u == ⟨#[115,104,101,101,116]⟩)=true∧mget (formsL b) u=some (.func (.func 109) #[] #[.pointer (some ⟨b,0,none⟩)]))∨(¬ (u == ⟨#[115,104,101,101,116]⟩)=true∧(u == ⟨#[119,97,108,108]⟩)=true∧mget (formsL b) u=some (.func (.func 112) #[] #[.pointer (some ⟨b,0,none⟩)])) ∨
  (¬ (u == ⟨#[115,104,101,101,116]⟩)=true∧¬ (u == ⟨#[119,97,108,108]⟩)=true∧(u == ⟨#[111,112,101,110]⟩)=true∧mget (formsL b) u=some (.func (.func 115) #[] #[.pointer (some ⟨b,0,none⟩)])):=by
 unfold formsL mget mget mget mget at *
 by_cases h1:(u == ⟨#[115,104,101,101,116]⟩)=true
 ·exact .inl ⟨h1,if_pos h1⟩
 ·by_cases h2:(u == ⟨#[119,97,108,108]⟩)=true
  ·exact .inr (.inl ⟨h1,h2,(if_neg h1).trans (if_pos h2)⟩)
  ·by_cases h3:(u == ⟨#[111,112,101,110]⟩)=true
   ·exact .inr (.inr ⟨h1,h2,h3,(if_neg h1).trans ((if_neg h2).trans (if_pos h3))⟩)
   ·rw [if_neg h1,if_neg h2,if_neg h3] at h; cases h
theorem formsL_none {b:Nat} {q:Plan} {u:ByteArray} {ws:List ByteArray} (h:(mget (formsL b) u).isSome=false):formE q u ws=.error 4:=by
 unfold formsL mget mget mget mget at h
 unfold formE
 by_cases h1:(u == ⟨#[115,104,101,101,116]⟩)=true
 ·rw [if_pos h1] at h; cases h
 ·by_cases h2:(u == ⟨#[119,97,108,108]⟩)=true
  ·rw [if_neg h1,if_pos h2] at h; cases h
  ·by_cases h3:(u == ⟨#[111,112,101,110]⟩)=true
   ·rw [if_neg h1,if_neg h2,if_pos h3] at h; cases h
   ·rw [if_neg h1,if_neg h2,if_neg h3]
set_option maxRecDepth 100000 in
set_option maxHeartbeats 8000000 in
theorem line_c (p:Nat) (q:Plan) (t:ByteArray) (w:World) (B:Nat→Prop) (hB:∀ k,B k→k < w.heap.size) (hA:(PlP p q).A B w) (hq:OkQ q) (ht:t.size≤40000) (hmx:Rd (fun k=>k < w.heap.size∧¬ B k) w (IntV 2)) (hcp:Rd (fun k=>k < w.heap.size∧¬ B k) w (Elems (some ⟨0,0,none⟩) 1 encS copesW)) (hop:Rd (fun k=>k < w.heap.size∧¬ B k) w (Elems (some ⟨1,0,none⟩) 1 encS opensW)) :
  Calls Tryz.prog 59 #[.pointer (some ⟨p,0,none⟩),.string t] w (Turns (fun _:Unit=>.int .i64 (codeE (lineE q t))) (fun _=>plOr yP p (lineE q t)) (fun _=>True) B w):=by
 refine calls_of_gkB hB hA (vs:=[_,_]) Tryz.func59 rfl rfl (Nat.le_of_ble_eq_true rfl) ?_
 refine gk_seq ?_
 refine gk_region ?_
 refine gk_yx rfl rfl (yx_alloc tf33 (zs:=[_]) rfl) fun b4=>?_
 refine gk_nil (gk_sub (T':=[(0,_),(1,_),(4,_)]) ⟨rfl,rfl,rfl,trivial⟩ ?_)
 refine gk_seq ?_
 refine gk_region ?_
 refine gk_y rfl rfl (y_makeFunc («as»:=[]) (bs:=[_]) rfl rfl) ?_
 refine gk_defer (cap:=[_]) rfl rfl rfl ?_
 refine gk_nil (gk_sub (T':=[(0,_),(1,_),(4,_)]) ⟨rfl,rfl,rfl,trivial⟩ ?_)
 refine gk_seq ?_
 refine gk_region ?_
 refine gk_y rfl rfl (y_move rfl) ?_
 refine gk_yx rfl rfl (yx_call en88 rfl (fun w hw=>split_c t 32 w (by omega) (Rd.has hmx hw))) fun b10=>?_
 refine gk_y rfl rfl (y_buildL rfl (bd161_0l _ _ _)) ?_
 refine gk_yx rfl rfl (yx_box (vs:=[_]) rfl rfl) fun b12=>?_
 refine gk_y rfl rfl (y_assign rfl) ?_
 refine gk_nil (gk_sub (T':=[(0,_),(4,_),(5,_)]) ⟨rfl,rfl,rfl,trivial⟩ ?_)
 refine gk_front 1 rfl ?_
 refine gk_conv (R':=Elems (some ⟨b10,0,none⟩) 1 encS (splitL t 32)) 0 rfl (fun B w hA=>Row.elems encS_ok hA) ?_
 refine gk_front 1 rfl ?_
 refine gk_closeRdr (Nat.le_refl _) ?_
 refine gk_seq ?_
 refine gk_region ?_
 refine gk_y rfl rfl (y_move rfl) ?_
 refine gk_yx rfl rfl (yx_call en89 rfl (fun w hw=>forms_c p w)) fun m15=>?_
 refine gk_y rfl rfl (y_move rfl) ?_
 refine gk_callE (res:=nextE (splitL t 32)) 1 en90 rfl rfl rfl (fun w B hF=>next_c b12 (splitL t 32) w B (fun k hk=>(hF.own k hk).2) hF.A) (fun k hk17=>?_) (fun x17 m17 hx17=>?_)
 ·
  refine gk_front 2 rfl ?_
  exact gk_caught (H':=Box b4 [.int .i64 k] 33 :: _) en87 (fun w hw=>line1_thrown rfl hw) (rv_one rfl (r1_cell1 (i:=0) tf33 rfl rfl rfl)) (fun w hw=>line_err 3 rfl plAt_pl (by rw [lineE,hk17]; rfl) hw)
 refine gk_split ?_
 refine gk_y rfl rfl (y_lookupMap mt164 rfl rfl (fun _ hw=>hw.has (p:=0) rfl)) ?_
 refine gk_y rfl rfl (y_move rfl) ?_
 refine gk_y rfl rfl (y_extract rfl rfl) ?_
 refine gk_y rfl rfl (y_extract rfl rfl) ?_
 refine gk_y rfl rfl (y_assign rfl) ?_
 refine gk_y rfl rfl (y_assign rfl) ?_
 refine gk_nil (gk_sub (T':=[(4,_),(5,_),(6,_),(7,_)]) ⟨rfl,rfl,rfl,rfl,trivial⟩ ?_)
 have hws17:x17.2.length≤100000:=by have:=(split_numP t 32).2; have:=next_len hx17; omega
 refine gk_seq ?_
 refine gk_seq ?_
 refine gk_region ?_
 refine gk_y rfl rfl (y_move rfl) ?_
 refine gk_y rfl rfl (y_not rfl) ?_
 refine gk_nil (gk_sub (T':=[(4,_),(5,_),(6,_),(22,_)]) ⟨rfl,rfl,rfl,rfl,trivial⟩ ?_)
 refine gk_cond rfl (fun hc22=>?_) (fun hc22=>?_)
 ·
  refine gk_region ?_
  refine gk_callP en91 rfl (fun w hw=>fail_c _ w) ?_
  refine gk_front 3 rfl ?_
  exact gk_caught (H':=Box b4 [.int .i64 4] 33 :: _) en87 (fun w hw=>line1_thrown rfl hw) (rv_one rfl (r1_cell1 (i:=0) tf33 rfl rfl rfl)) (fun w hw=>line_err 4 rfl plAt_pl (by rw [lineE,hx17,ok_bind]; exact formsL_none (by simpa using hc22)) hw)
 ·have h22:(mget (formsL m15.2) x17.1).isSome=true:=by simpa using hc22
  rcases formsL_some h22 with ⟨hu,hm⟩ | ⟨hu0,hu,hm⟩ | ⟨hu0,hu1,hu,hm⟩
  ·
   refine gk_sub (T':=[(4,_),(5,_),(6,.func (.func 109) #[] #[.pointer (some ⟨m15.2,0,none⟩)]),(22,_)]) ⟨rfl,rfl,(by show some ((mget (formsL m15.2) x17.1).getD _)=_; rw [hm]; rfl),rfl,trivial⟩ ?_
   refine gk_skip ?_
   refine gk_seq ?_
   refine gk_region ?_
   refine gk_y rfl rfl (y_move rfl) ?_
   refine gk_y rfl rfl (y_move rfl) ?_
   refine gk_front 4 rfl ?_
   refine gk_front 3 rfl ?_
   refine gk_pack 2 ?_
   refine gk_callVF (res:=sheetLineE q x17.2) (fs:=[]) (cap:=[_]) 0 en109 rfl rfl rfl rfl (fun w B hF=>form1_c b12 x17.2 p q m15.2 w B (fun k hk=>(hF.own k hk).2) hF.A hq (hF.other 1 rfl) hws17 (hF.rd hcp)) (fun k hk26=>?_) (fun x26 m26 hx26=>?_)
   ·
    refine gk_front 3 rfl ?_
    exact gk_caught (H':=Box b4 [.int .i64 k] 33 :: _) en87 (fun w hw=>line1_thrown rfl hw) (rv_one rfl (r1_cell1 (i:=0) tf33 rfl rfl rfl)) (fun w hw=>line_err 1 rfl plAt_at (by rw [lineE,hx17,ok_bind,formE,if_pos hu]; exact hk26) hw)
   refine gk_nil (gk_sub (T':=[(4,_)]) ⟨rfl,trivial⟩ ?_)
   refine gk_seq ?_
   refine gk_region ?_
   refine gk_storeV 3 tf33 rfl rfl (vs:=[_]) rfl rfl rfl rfl rfl ?_
   refine gk_nil (gk_sub (T':=[(4,_)]) ⟨rfl,trivial⟩ ?_)
   refine gk_ret ?_
   exact gk_return2 en87 (fun w hw=>line1_done rfl hw) (rv_one rfl (r1_cell1 (i:=3) tf33 rfl rfl rfl)) (fun w hw=>line_ok (by rw [lineE,hx17,ok_bind,formE,if_pos hu]; exact hx26) hw (i:=0) rfl)
  ·
   refine gk_sub (T':=[(4,_),(5,_),(6,.func (.func 112) #[] #[.pointer (some ⟨m15.2,0,none⟩)]),(22,_)]) ⟨rfl,rfl,(by show some ((mget (formsL m15.2) x17.1).getD _)=_; rw [hm]; rfl),rfl,trivial⟩ ?_
   refine gk_skip ?_
   refine gk_seq ?_
   refine gk_region ?_
   refine gk_y rfl rfl (y_move rfl) ?_
   refine gk_y rfl rfl (y_move rfl) ?_
   refine gk_front 4 rfl ?_
   refine gk_front 3 rfl ?_
   refine gk_pack 2 ?_
   refine gk_callVF (res:=wallLineE q x17.2) (fs:=[]) (cap:=[_]) 0 en112 rfl rfl rfl rfl (fun w B hF=>form2_c b12 x17.2 p q m15.2 w B (fun k hk=>(hF.own k hk).2) hF.A hq (hF.other 1 rfl) hws17) (fun k hk26=>?_) (fun x26 m26 hx26=>?_)
   ·
    refine gk_front 3 rfl ?_
    exact gk_caught (H':=Box b4 [.int .i64 k] 33 :: _) en87 (fun w hw=>line1_thrown rfl hw) (rv_one rfl (r1_cell1 (i:=0) tf33 rfl rfl rfl)) (fun w hw=>line_err 1 rfl plAt_at (by rw [lineE,hx17,ok_bind,formE,if_neg hu0,if_pos hu]; exact hk26) hw)
   refine gk_nil (gk_sub (T':=[(4,_)]) ⟨rfl,trivial⟩ ?_)
   refine gk_seq ?_
   refine gk_region ?_
   refine gk_storeV 3 tf33 rfl rfl (vs:=[_]) rfl rfl rfl rfl rfl ?_
   refine gk_nil (gk_sub (T':=[(4,_)]) ⟨rfl,trivial⟩ ?_)
   refine gk_ret ?_
   exact gk_return2 en87 (fun w hw=>line1_done rfl hw) (rv_one rfl (r1_cell1 (i:=3) tf33 rfl rfl rfl)) (fun w hw=>line_ok (by rw [lineE,hx17,ok_bind,formE,if_neg hu0,if_pos hu]; exact hx26) hw (i:=0) rfl)
  ·
   refine gk_sub (T':=[(4,_),(5,_),(6,.func (.func 115) #[] #[.pointer (some ⟨m15.2,0,none⟩)]),(22,_)]) ⟨rfl,rfl,(by show some ((mget (formsL m15.2) x17.1).getD _)=_; rw [hm]; rfl),rfl,trivial⟩ ?_
   refine gk_skip ?_
   refine gk_seq ?_
   refine gk_region ?_
   refine gk_y rfl rfl (y_move rfl) ?_
   refine gk_y rfl rfl (y_move rfl) ?_
   refine gk_front 4 rfl ?_
   refine gk_front 3 rfl ?_
   refine gk_pack 2 ?_
   refine gk_callVF (res:=openLineE q x17.2) (fs:=[]) (cap:=[_]) 0 en115 rfl rfl rfl rfl (fun w B hF=>form3_c b12 x17.2 p q m15.2 w B (fun k hk=>(hF.own k hk).2) hF.A hq (hF.other 1 rfl) hws17 (hF.rd hop)) (fun k hk26=>?_) (fun x26 m26 hx26=>?_)
   ·
    refine gk_front 3 rfl ?_
    exact gk_caught (H':=Box b4 [.int .i64 k] 33 :: _) en87 (fun w hw=>line1_thrown rfl hw) (rv_one rfl (r1_cell1 (i:=0) tf33 rfl rfl rfl)) (fun w hw=>line_err 1 rfl plAt_at (by rw [lineE,hx17,ok_bind,formE,if_neg hu0,if_neg hu1,if_pos hu]; exact hk26) hw)
   refine gk_nil (gk_sub (T':=[(4,_)]) ⟨rfl,trivial⟩ ?_)
   refine gk_seq ?_
   refine gk_region ?_
   refine gk_storeV 3 tf33 rfl rfl (vs:=[_]) rfl rfl rfl rfl rfl ?_
   refine gk_nil (gk_sub (T':=[(4,_)]) ⟨rfl,trivial⟩ ?_)
   refine gk_ret ?_
   exact gk_return2 en87 (fun w hw=>line1_done rfl hw) (rv_one rfl (r1_cell1 (i:=3) tf33 rfl rfl rfl)) (fun w hw=>line_ok (by rw [lineE,hx17,ok_bind,formE,if_neg hu0,if_neg hu1,if_pos hu]; exact hx26) hw (i:=0) rfl)
end Go.Proofs.YtdcfcfhmkfkgmaaGreatDoor
namespace Go.Proofs.YtdcfcfhmkfkgmaaGreatDoor
open Go.K Go.Stn Go.Pln Go.RowKit
theorem en86:En Tryz.prog 86:=en_of Tryz.func86 (by kernel_rfl) (by kernel_rfl)
def numV:Int→List ByteArray→List (List Value)
 | _,[]=>[]
 | n,t :: r=>[.int .i64 n,.string t] :: numV (n+1) r
theorem numV_len:∀ (n:Int) (l:List ByteArray),(numV n l).length=l.length
 | _,[]=>rfl
 | n,t :: r=>by rw [numV,List.length_cons,List.length_cons,numV_len (n+1) r]
theorem numV_get {u:ByteArray}:∀ {l:List ByteArray} {k:Int} {i:Nat},l[i]?=some u→(numV k l)[i]?=some [.int .i64 (k+i),.string u]
 | [],_,_,h=>by simp at h
 | t :: r,k,0,h=>by
  simp at h
  rw [numV,h]
  simp
 | t :: r,k,i+1,h=>by
  rw [List.getElem?_cons_succ] at h
  rw [numV,List.getElem?_cons_succ,numV_get h,show k+1+(i:Int)=k+((i+1:Nat):Int) from by omega]
theorem num_get {n:Int} {l:List ByteArray} {u:ByteArray} (h1:1≤n) (h:l[(n - 1).toNat]?=some u):(numV 1 l)[(n - 1).toNat]?=some [.int .i64 n,.string u]:=by
 rw [numV_get h,show 1+((n - 1).toNat:Int)=n from by omega]
theorem dropE_len:∀ l:List ByteArray,(dropE l).length≤l.length
 | []=>Nat.le_refl _
 | [x]=>by rw [dropE]; split <;> simp
 | x :: y :: r=>by have:=dropE_len (y :: r); rw [dropE,List.length_cons,List.length_cons]; omega
theorem lines_num (t:ByteArray):(linesL t).length≤t.size+1:=Nat.le_trans (dropE_len _) (split_numP t 10).2
theorem empty_iff {u:ByteArray}:(u.toList == (⟨#[]⟩:ByteArray).toList)=true↔u.size=0:=by
 rw [Lib.toList_data,Lib.toList_data,beq_iff_eq]
 constructor
 ·intro h
  have:=congrArg List.length h
  rw [Array.length_toList] at this
  exact this
 ·intro h
  exact List.eq_nil_of_length_eq_zero (by rw [Array.length_toList]; exact h)
theorem cutAB_c (s:ByteArray) (w:World) (hs:s.size < 4294967281) (hm:Has w (IntV 2)):Calls Tryz.prog 86 #[.string s,.string ⟨#[10]⟩] w (Pure (.tuple #[.string (cutA s),.string (cutB s),.bool (Lib.cut s.data.toList [10]).2.2]) w):=cut_c s _ w hs hm
set_option maxRecDepth 100000 in
set_option maxHeartbeats 1000000 in
theorem lines1_c (t:ByteArray) (b:Nat) (ht:t.size≤40000) :
  SeqCP Tryz.prog 85 [.pointer (some ⟨b,0,none⟩)] (numV 1 (linesL t)) (Box b [.string t] 9) (IntV 2):=by
 intro X J Rl D y w B C x0 hB hC hA hO h0 hS hy
 have hnum:=lines_num t
 refine calls_of_gkB (B:=fun k=>B k∨C k) (fun k h=>h.elim (hB k) (fun h=>(hC k h).1)) (sep_twoP hA hO (fun k h=>(hC k h).2)) (vs:=[_,_]) Tryz.func85 rfl rfl (Nat.le_of_ble_eq_true rfl) ?_
 have ins0:=insideB Tryz.prog Tryz.f85.ntmps w (fun k=>B k∨C k)
 refine gk_split ?_
 refine gk_seq ?_
 refine gk_region ?_
 refine gk_y rfl rfl (y_assign rfl) ?_
 refine gk_nil (gk_sub (T':=[(0,_),(1,_),(3,_)]) ⟨rfl,rfl,rfl,trivial⟩ ?_)
 refine gk_block ?_
 refine gk_loop (X:=Int×ByteArray×X) (fun⟨n,u,x2⟩=>[(0,.func (.yield y) #[] #[]),(1,.pointer (some ⟨b,0,none⟩)),(3,.int .i64 n)]) (fun⟨n,u,x2⟩=>[J x2,Box b [.string u] 9]) (fun⟨n,u,x2⟩=>(1≤n∧linesL u=(linesL t).drop (n - 1).toNat∧(n - 1).toNat≤(linesL t).length∧u.size≤t.size∧Rl (n - 1).toNat x2)) (fun⟨n,u,x2⟩=>u.size) (1,t,x0) ⟨rfl,rfl,rfl,trivial⟩ rfl ?_ ?_
 ·exact⟨by omega,rfl,by simp,Nat.le_refl _,h0⟩
 ·rintro ⟨n,u,x2⟩ hI
  obtain⟨g0,g1,g2,g3,g4⟩:=hI
  refine gk_seq ?_
  refine gk_seq ?_
  refine gk_region ?_
  refine gk_y rfl rfl (y_loadB1 1 tf9 rfl rfl rfl) ?_
  refine gk_y rfl rfl (y_strNe rfl rfl) ?_
  refine gk_nil (gk_sub (T':=[(0,_),(1,_),(3,_),(8,_)]) ⟨rfl,rfl,rfl,rfl,trivial⟩ ?_)
  refine gk_cond rfl (fun hc8=>?_) (fun hc8=>?_)
  ·have hu:u.size≠0:=fun h=>by rw [empty_iff.2 h] at hc8; exact Bool.noConfusion hc8
   refine gk_skip ?_
   refine gk_seq ?_
   refine gk_block ?_
   refine gk_seq ?_
   refine gk_region ?_
   refine gk_y rfl rfl (y_loadB1 1 tf9 rfl rfl rfl) ?_
   refine gk_y rfl rfl (y_call en86 rfl (fun w hw=>cutAB_c u w (by omega) (Rd.has hS hw))) ?_
   refine gk_y rfl rfl (y_move rfl) ?_
   refine gk_y rfl rfl (y_extract rfl rfl) ?_
   refine gk_y rfl rfl (y_extract rfl rfl) ?_
   refine gk_y rfl rfl (y_extract rfl rfl) ?_
   refine gk_y rfl rfl (y_assign rfl) ?_
   refine gk_y rfl rfl (y_assign rfl) ?_
   refine gk_y rfl rfl (y_assign rfl) ?_
   refine gk_nil (gk_sub (T':=[(0,_),(1,_),(3,_),(4,_),(5,_)]) ⟨rfl,rfl,rfl,rfl,rfl,trivial⟩ ?_)
   refine gk_seq ?_
   refine gk_seq ?_
   refine gk_region ?_
   refine gk_y rfl rfl (y_move rfl) ?_
   refine gk_y rfl rfl (y_move rfl) ?_
   refine gk_y rfl rfl (y_move rfl) ?_
   refine gk_yield 0 ins0 rfl rfl rfl rfl (hy _ _ _ (num_get g0 (lines_drop g1 hu).2) g4) fun b20 x20 hp20=>?_
   refine gk_y rfl rfl (y_not rfl) ?_
   refine gk_nil (gk_sub (T':=[(0,_),(1,_),(3,_),(5,_),(21,_)]) ⟨rfl,rfl,rfl,rfl,rfl,trivial⟩ ?_)
   refine gk_cond rfl (fun hc21=>?_) (fun hc21=>?_)
   ·
    refine gk_ret ?_
    refine gk_turns x20 0 (rv_none rfl) rfl rfl (.inr (by have:=hp20; rwa [show b20=false from by simpa using hc21,if_neg Bool.false_ne_true] at this))
   ·
    refine gk_skip ?_
    refine gk_region ?_
    refine gk_y rfl rfl (y_move rfl) ?_
    refine gk_storeV 1 tf9 rfl rfl (vs:=[_]) rfl rfl rfl rfl rfl ?_
    refine gk_nil (gk_sub (T':=[(0,_),(1,_),(3,_)]) ⟨rfl,rfl,rfl,trivial⟩ ?_)
    refine gk_region ?_
    refine gk_y rfl rfl (y_move rfl) ?_
    refine gk_y rfl rfl (y_addI rfl rfl (by omega) (by omega)) ?_
    refine gk_y rfl rfl (y_assign rfl) ?_
    refine gk_nil (gk_sub (T':=[(0,_),(1,_),(3,_)]) ⟨rfl,rfl,rfl,trivial⟩ ?_)
    exact gk_next (n+1,cutB u,x20) ⟨rfl,rfl,rfl,trivial⟩ rfl ⟨by omega,by rw [show(n+1 - 1).toNat=(n - 1).toNat+1 from by omega]; exact(lines_drop g1 hu).1,by have:=(List.getElem?_eq_some_iff.1 (lines_drop g1 hu).2).1; omega,by have:=cutB_size hu; omega,by have:=hp20; rw [show b20=true from by simpa using hc21,if_pos rfl] at this; rwa [show(n+1 - 1).toNat=(n - 1).toNat+1 from by omega]⟩ (by have:=cutB_size hu; simp only []; omega)
  ·have hu:u.size=0:=empty_iff.1 (by simpa using hc8)
   refine gk_exit rfl ?_
   refine gk_turns x2 0 (rv_none rfl) rfl rfl (.inl (by rw [numV_len,←lines_end g1 hu g2]; exact g4))
set_option maxRecDepth 100000 in
set_option maxHeartbeats 1000000 in
theorem lines_c (t:ByteArray) (w:World)  :
  Calls Tryz.prog 58 #[.string t] w (Gives (fun b:Nat=>.func (.func 85) #[] #[.pointer (some ⟨b,0,none⟩)]) (fun b=>Box b [.string t] 9) w):=by
 refine calls_of_gk (vs:=[_]) Tryz.func58 rfl rfl (Nat.le_of_ble_eq_true rfl) ?_
 refine gk_seq ?_
 refine gk_region ?_
 refine gk_yx rfl rfl (yx_box (vs:=[_]) rfl rfl) fun b1=>?_
 refine gk_y rfl rfl (y_assign rfl) ?_
 refine gk_nil (gk_sub (T':=[(1,_),(2,_)]) ⟨rfl,rfl,trivial⟩ ?_)
 refine gk_seq ?_
 refine gk_region ?_
 refine gk_y rfl rfl (y_makeFunc («as»:=[]) (bs:=[_]) rfl rfl) ?_
 refine gk_y rfl rfl (y_assign rfl) ?_
 refine gk_nil (gk_sub (T':=[(2,_)]) ⟨rfl,trivial⟩ ?_)
 refine gk_ret ?_
 refine gk_gives b1 0 (rv_one rfl (r1_tmp rfl)) ?_ rfl
 rfl
end Go.Proofs.YtdcfcfhmkfkgmaaGreatDoor
namespace Go.Proofs.YtdcfcfhmkfkgmaaGreatDoor
open Go.K Go.Stn Go.Pln Go.RowKit
theorem en58:En Tryz.prog 58:=en_of Tryz.func58 (by kernel_rfl) (by kernel_rfl)
theorem en59:En Tryz.prog 59:=en_of Tryz.func59 (by kernel_rfl) (by kernel_rfl)
theorem en85:En Tryz.prog 85:=en_of Tryz.func85 (by kernel_rfl) (by kernel_rfl)
theorem bd31_  (w:World):(Instr.build 31 #[]).run Tryz.prog w=.ok (.agg #[.slice none 0 0,.slice none 0 0]) w:=by kernel_rfl
theorem numV_two:∀ (k:Int) (l:List ByteArray),∀ a∈numV k l,a.length=2
 | _,[],_,h=>by cases h
 | k,t :: r,a,h=>by
  rw [numV] at h
  rcases List.mem_cons.1 h with rfl | h'
  ·rfl
  ·exact numV_two (k+1) r a h'
theorem idle_pos {u:ByteArray} (h:(!(u.toList == (⟨#[]⟩:ByteArray).toList))=true):0 < (u.size:Int):=by
 have:¬ u.size=0:=fun e=>by rw [empty_iff.2 e] at h; exact Bool.noConfusion h
 omega
theorem idle_or {u:ByteArray} (h:(u.toList == (⟨#[]⟩:ByteArray).toList||decide (byteI u 0=35))=true):idle u=true:=by
 rw [Bool.or_eq_true] at h
 rcases h with h' | h'
 ·exact idle_0 (empty_iff.1 h')
 ·exact idle_b h'
theorem idle_nor {u:ByteArray} (h:(u.toList == (⟨#[]⟩:ByteArray).toList||decide (byteI u 0=35))=false):idle u=false:=by
 obtain⟨h1,h2⟩:=(Bool.or_eq_false_iff).1 h
 exact idle_no (fun e=>by rw [empty_iff.2 e] at h1; cases h1) h2
theorem numV_inv {l:List ByteArray} {k:Int} {i:Nat} {a:List Value} (h:(numV k l)[i]?=some a):∃ u,l[i]?=some u∧a=[.int .i64 (k+i),.string u]:=by
 have hi:i < l.length:=by
  have:=(List.getElem?_eq_some_iff.1 h).1
  rwa [numV_len] at this
 refine⟨l[i],List.getElem?_eq_getElem hi,?_⟩
 have:=numV_get (k:=k) (List.getElem?_eq_getElem hi)
 rw [this] at h
 cases h; rfl
set_option maxRecDepth 100000 in
set_option maxHeartbeats 4000000 in
theorem parse_c (t:ByteArray) (w:World) (hmx:Has w (IntV 2)) (hcp:Has w (Elems (some ⟨0,0,none⟩) 1 encS copesW)) (hop:Has w (Elems (some ⟨1,0,none⟩) 1 encS opensW)) :
  Calls Tryz.prog 24 #[.string t] w (Gives (fun z:(Option Addr×Nat×List ShC)×(Option Addr×Nat×List WlC)=>.tuple #[.agg #[.slice z.1.1 z.1.2.2.length z.1.2.1,.slice z.2.1 z.2.2.2.length z.2.2.1],.int .i64 (parseE t).2.1,.int .i64 (parseE t).2.2]) (fun z=>PlR yP z (parseE t).1) w):=by
 refine calls_of_gk (vs:=[_]) Tryz.func24 rfl rfl (Nat.le_of_ble_eq_true rfl) ?_
 refine gk_seq ?_
 refine gk_region ?_
 refine gk_yx rfl rfl (yx_alloc tf31 (zs:=[_,_]) rfl) fun b2=>?_
 refine gk_yx rfl rfl (yx_alloc tf3 (zs:=[_]) rfl) fun b3=>?_
 refine gk_yx rfl rfl (yx_alloc tf33 (zs:=[_]) rfl) fun b4=>?_
 refine gk_nil (gk_sub (T':=[(0,_),(2,_),(3,_),(4,_)]) ⟨rfl,rfl,rfl,rfl,trivial⟩ ?_)
 refine gk_seq ?_
 refine gk_seq ?_
 refine gk_region ?_
 refine gk_y rfl rfl (y_move rfl) ?_
 refine gk_y rfl rfl (y_lenStr (Tryz.underlying9) rfl) ?_
 refine gk_y rfl rfl (y_gtr rfl rfl) ?_
 refine gk_nil (gk_sub (T':=[(0,_),(2,_),(3,_),(4,_),(10,_)]) ⟨rfl,rfl,rfl,rfl,rfl,trivial⟩ ?_)
 refine gk_cond rfl (fun hc10=>?_) (fun hc10=>?_)
 ·
  refine gk_seq ?_
  refine gk_region ?_
  refine gk_y rfl rfl (y_buildL (parts:=[]) rfl bd31_) ?_
  refine gk_storeV 2 tf31 rfl rfl (vs:=[_,_]) rfl rfl rfl rfl rfl ?_
  refine gk_storeV 1 tf3 rfl rfl (vs:=[_]) rfl rfl rfl rfl rfl ?_
  refine gk_storeV 0 tf33 rfl rfl (vs:=[_]) rfl rfl rfl rfl rfl ?_
  refine gk_nil (gk_sub (T':=[(0,_),(2,_),(3,_),(4,_)]) ⟨rfl,rfl,rfl,rfl,trivial⟩ ?_)
  refine gk_nilR yP ?_
  refine gk_ret ?_
  refine gk_gives ((none,0,[]),(none,0,[])) 0 (rv_three rfl (r1_cellA (i:=3) (vs:=[_,_]) tf31 rfl rfl rfl rfl) (r1_cell1 (i:=2) tf3 rfl rfl rfl) (r1_cell1 (i:=1) tf33 rfl rfl rfl)) (by rw [parse_long (by have:=of_decide_eq_true hc10; omega)] <;> rfl) (by rw [parse_long (by have:=of_decide_eq_true hc10; omega)] <;> rfl)
 ·have hlong:¬ t.size > 40000:=by have:=of_decide_eq_false hc10; omega
  refine gk_skip ?_
  refine gk_seq ?_
  refine gk_seq ?_
  refine gk_region ?_
  refine gk_y rfl rfl (y_move rfl) ?_
  refine gk_yx rfl rfl (yx_call en58 rfl (fun w hw=>lines_c _ w)) fun b13=>?_
  refine gk_nil (gk_sub (T':=[(2,_),(3,_),(4,_),(13,_)]) ⟨rfl,rfl,rfl,rfl,trivial⟩ ?_)
  refine gk_front 3 rfl ?_
  refine gk_conv (R':=stR yP b2 (.ok ⟨[],[]⟩)) 0 rfl (fun B w hA=>plNil hA) ?_
  refine gk_front 2 rfl ?_
  refine gk_front 3 rfl ?_
  refine gk_front 2 rfl ?_
  refine gk_front 3 rfl ?_
  refine gk_block ?_
  refine gk_sub (T':=[(2,_),(3,_),(4,_),(13,_)]) ⟨rfl,rfl,rfl,rfl,trivial⟩ ?_
  refine gk_rangeFuncP (X:=Except (Int×Int) Plan) (fun x=>[stR yP b2 x,Box b3 [.int .i64 (lnE x)] 3,Box b4 [.int .i64 (erE x)] 33]) (fun n x=>∃ q,x=.ok q∧OkQ q∧linesE ⟨[],[]⟩ 1 (linesL t)=linesE q (1+(n:Int)) ((linesL t).drop n)) (fun x=>x=linesE ⟨[],[]⟩ 1 (linesL t)∧∃ y,x=.error y) [] (.ok ⟨[],[]⟩) rfl en85 rfl rfl ⟨_,rfl,okQ_nil,by simp⟩ (lines1_c t b13 (by omega)) (Has.rd hmx) (numV_two _ _) rfl ?_ ?_ ?_ ?_
  ·rintro R1 R2 rl U' w' n x args hget hR hrd hins hbeg
   obtain⟨u,hs,rfl⟩:=numV_inv hget
   obtain⟨q,rfl,hq,hle⟩:=hR
   refine gk_sub (T':=[(2,_),(3,_),(4,_),(14,_),(15,_)]) ⟨rfl,rfl,rfl,rfl,rfl,trivial⟩ ?_
   refine gk_seq ?_
   refine gk_region ?_
   refine gk_y rfl rfl (y_assign rfl) ?_
   refine gk_nil (gk_sub (T':=[(2,_),(3,_),(4,_),(5,_),(15,_)]) ⟨rfl,rfl,rfl,rfl,rfl,trivial⟩ ?_)
   refine gk_region ?_
   refine gk_y rfl rfl (y_assign rfl) ?_
   refine gk_nil (gk_sub (T':=[(2,_),(3,_),(4,_),(5,_),(6,_)]) ⟨rfl,rfl,rfl,rfl,rfl,trivial⟩ ?_)
   refine gk_conv (R':=PlP b2 q) 1 rfl (fun B w hA=>hA) ?_
   refine gk_conv (R':=Box b3 [.int .i64 0] 3) 2 rfl (fun B w hA=>hA) ?_
   refine gk_conv (R':=Box b4 [.int .i64 0] 33) 3 rfl (fun B w hA=>hA) ?_
   refine hbeg _ _ _ ?_
   refine gk_block ?_
   refine gk_seq ?_
   refine gk_seq ?_
   refine gk_any 7 (fun _=>mixed) (by kernel_rfl) ?_
   refine ph_y (y_move rfl) ?_
   refine ph_y (y_strEq rfl rfl) ?_
   refine ph_y (y_move rfl) ?_
   refine ph_gF rfl rfl (fun hgd=>by(try rw [hgd]); (try have hgd2:=idle_pos hgd); exact(y_move rfl)) ?_
   refine ph_gF rfl rfl (fun hgd=>by(try rw [hgd]); (try have hgd2:=idle_pos hgd); exact(y_strIndex (Tryz.underlying9) rfl rfl (by omega) (by omega))) ?_
   refine ph_gF rfl rfl (fun hgd=>by(try rw [hgd]); (try have hgd2:=idle_pos hgd); exact(y_eql rfl rfl)) ?_
   refine ph_y (y_pickOr rfl rfl rfl) ?_
   refine gk_nil (gk_sub (T':=[(2,_),(3,_),(4,_),(5,_),(6,_),(22,_)]) ⟨rfl,rfl,rfl,rfl,rfl,rfl,trivial⟩ ?_)
   refine gk_cond rfl (fun hc22=>?_) (fun hc22=>?_)
   ·have hid:=idle_or hc22
    refine gk_exit rfl ?_
    exact gk_joined (.ok q) trivial rfl ⟨_,rfl,hq,by rw [hle,drop_at hs,plain_idle hid,(show 1+(n:Int)+1=1+((n+1:Nat):Int) from by omega)]⟩
   ·have hid:=idle_nor hc22
    refine gk_skip ?_
    refine gk_seq ?_
    refine gk_region ?_
    refine gk_y rfl rfl (y_move rfl) ?_
    refine gk_callU 1 en59 rfl rfl rfl (fun w B hF=>line_c b2 q u w B (fun k hk=>(hF.own k hk).2) hF.A hq (by have:=lines_size hs; omega) (hF.rd (hrd _ (Has.rd hmx))) (hF.rd (hrd _ (Has.rd hcp))) (hF.rd (hrd _ (Has.rd hop)))) fun z24 hq24=>?_
    refine gk_y rfl rfl (y_assign rfl) ?_
    refine gk_nil (gk_sub (T':=[(2,_),(3,_),(4,_),(5,_),(7,_)]) ⟨rfl,rfl,rfl,rfl,rfl,trivial⟩ ?_)
    refine gk_seq ?_
    refine gk_region ?_
    refine gk_y rfl rfl (y_move rfl) ?_
    refine gk_y rfl rfl (y_neq rfl rfl) ?_
    refine gk_nil (gk_sub (T':=[(2,_),(3,_),(4,_),(5,_),(7,_),(26,_)]) ⟨rfl,rfl,rfl,rfl,rfl,rfl,trivial⟩ ?_)
    refine gk_cond rfl (fun hc26=>?_) (fun hc26=>?_)
    ·have hk:=code_err (q:=q) (t:=u) (by simpa using hc26)
     refine gk_conv (R':=plAt yP b2) 1 rfl (fun B w hA=>by rw [hk] at hA; exact hA) ?_
     refine gk_front 1 rfl ?_
     refine gk_openAt fun pa pn pm pb pe pd=>?_
     refine gk_seq ?_
     refine gk_region ?_
     refine gk_y rfl rfl (y_buildL (parts:=[]) rfl bd31_) ?_
     refine gk_y rfl rfl (y_move rfl) ?_
     refine gk_y rfl rfl (y_move rfl) ?_
     refine gk_storeV 0 tf31 rfl rfl (vs:=[_,_]) rfl rfl rfl rfl rfl ?_
     refine gk_storeV 2 tf3 rfl rfl (vs:=[_]) rfl rfl rfl rfl rfl ?_
     refine gk_storeV 3 tf33 rfl rfl (vs:=[_]) rfl rfl rfl rfl rfl ?_
     refine gk_nil (gk_sub (T':=[(2,_),(3,_),(4,_)]) ⟨rfl,rfl,rfl,trivial⟩ ?_)
     refine gk_conv (R':=stR yP b2 (.error (1+(n:Int),codeE (lineE q u)))) 0 rfl (fun B w hA=>hA) ?_
     refine gk_front 3 rfl ?_
     refine gk_front 3 rfl ?_
     refine gk_front 2 rfl ?_
     refine gk_front 3 rfl ?_
     refine gk_ret ?_
     exact gk_joined (.error (1+(n:Int),codeE (lineE q u))) trivial rfl ⟨by rw [hle,drop_at hs,plain_err hid hk],_,rfl⟩
    ·obtain⟨q',hq'⟩:=code_ok (q:=q) (t:=u) (by simpa using hc26)
     refine gk_conv (R':=PlP b2 q') 1 rfl (fun B w hA=>by rw [hq'] at hA; exact hA) ?_
     refine gk_skip ?_
     exact gk_joined (.ok q') trivial rfl ⟨_,rfl,okQ_line hq hq',by rw [hle,drop_at hs,plain_ok hid hq',(show 1+(n:Int)+1=1+((n+1:Nat):Int) from by omega)]⟩
  ·intro Dm x hR
   obtain⟨q,rfl,hq,hle⟩:=hR
   have hfin:linesE ⟨[],[]⟩ 1 (linesL t)=.ok q:=by rw [hle,numV_len,List.drop_of_length_le (Nat.le_refl _)]; rfl
   refine gk_conv (R':=PlP b2 q) 1 rfl (fun B w hA=>hA) ?_
   refine gk_conv (R':=Box b3 [.int .i64 0] 3) 2 rfl (fun B w hA=>hA) ?_
   refine gk_conv (R':=Box b4 [.int .i64 0] 33) 3 rfl (fun B w hA=>hA) ?_
   refine gk_front 1 rfl ?_
   refine gk_openPl fun sa sc S wa wc V hS hV=>?_
   refine gk_seq ?_
   refine gk_region ?_
   refine gk_y rfl rfl (y_loadBA 0 tf31 rfl rfl (vs:=[_,_]) rfl rfl) ?_
   refine gk_storeV 0 tf31 rfl rfl (vs:=[_,_]) rfl rfl rfl rfl rfl ?_
   refine gk_storeV 6 tf3 rfl rfl (vs:=[_]) rfl rfl rfl rfl rfl ?_
   refine gk_storeV 7 tf33 rfl rfl (vs:=[_]) rfl rfl rfl rfl rfl ?_
   refine gk_nil (gk_sub (T':=[(2,_),(3,_),(4,_)]) ⟨rfl,rfl,rfl,trivial⟩ ?_)
   refine gk_front 4 rfl ?_
   refine gk_front 4 rfl ?_
   refine gk_front 4 rfl ?_
   refine gk_front 4 rfl ?_
   refine gk_pack 4 ?_
   refine gk_conv (R':=PlR yP ((sa,sc,S),(wa,wc,V)) q) 0 rfl (fun B w hA=>⟨hS,hV,hA⟩) ?_
   refine gk_ret ?_
   refine gk_unmark 2 rfl ?_
   refine gk_gives ((sa,sc,S),(wa,wc,V)) 0 (rv_three rfl (r1_cellA (i:=1) (vs:=[_,_]) tf31 rfl rfl rfl rfl) (r1_cell1 (i:=2) tf3 rfl rfl rfl) (r1_cell1 (i:=3) tf33 rfl rfl rfl)) (by rw [parse_ok hlong hfin] <;> rfl) (by rw [parse_ok hlong hfin] <;> rfl)
  ·rintro Dm x hD
   obtain⟨hfin,y,rfl⟩:=hD
   have hfin:=hfin.symm
   refine gk_conv (R':=Box b2 [.slice none 0 0,.slice none 0 0] 31) 1 rfl (fun B w hA=>hA) ?_
   refine gk_conv (R':=Box b3 [.int .i64 y.1] 3) 2 rfl (fun B w hA=>hA) ?_
   refine gk_conv (R':=Box b4 [.int .i64 y.2] 33) 3 rfl (fun B w hA=>hA) ?_
   refine gk_nilR yP ?_
   refine gk_unmark 1 rfl ?_
   refine gk_gives ((none,0,[]),(none,0,[])) 0 (rv_three rfl (r1_cellA (i:=1) (vs:=[_,_]) tf31 rfl rfl rfl rfl) (r1_cell1 (i:=2) tf3 rfl rfl rfl) (r1_cell1 (i:=3) tf33 rfl rfl rfl)) (by rw [parse_err hlong hfin] <;> rfl) (by rw [parse_err hlong hfin] <;> rfl)
  ·exact fun _ _ _ _ h=>absurd h (by simp)
end Go.Proofs.YtdcfcfhmkfkgmaaGreatDoor