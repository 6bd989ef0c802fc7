/- Lemmas. -/
import Derived.Ground.SlmcProg
import Derived.Shelf.SlGeneric
import Derived.Shelf.SlIterI.Nil
import Derived.Shelf.SlMaps.Clone
import Derived.Shelf.SlicesQ.IndexFunc
import Derived.Test.YtbmkaekimccdgaaGreatDoorBm12
set_option maxHeartbeats 16000000
set_option maxRecDepth 1000000
set_option linter.all false
namespace Go.Proofs
open Go.Shelf
def Tryz.cloneS_ren:Go.Shelf.Ren:=⟨fun | 41=>69 | n=>n,fun | 22=>22 | 23=>9 | 4=>4 | n=>n,fun | n=>n⟩
theorem Tryz.cloneS:Go.Proofs.SlLaysE0.n41 Tryz.prog Tryz.cloneS_ren:={
 mixed:=by kernel_rfl
 f41:=⟨Tryz.f69.name,by decide,Tryz.func69.trans (congrArg some (by kernel_rfl))⟩
 t4:=Tryz.underlying4
 a4:=Tryz.isAgg4
 z4:=Tryz.sizeOf4
 v4:=Tryz.zeroValue4
 t22:=Tryz.underlying22
 a22:=Tryz.isAgg22
 z22:=Tryz.sizeOf22
 v22:=Tryz.zeroValue22 }
def Tryz.cloneB_ren:Go.Shelf.Ren:=⟨fun | 41=>223 | n=>n,fun | 22=>122 | 23=>4 | 4=>4 | n=>n,fun | n=>n⟩
theorem Tryz.cloneB:Go.Proofs.SlLaysE0.n41 Tryz.prog Tryz.cloneB_ren:={
 mixed:=by kernel_rfl
 f41:=⟨Tryz.f223.name,by decide,Tryz.func223.trans (congrArg some (by kernel_rfl))⟩
 t4:=Tryz.underlying4
 a4:=Tryz.isAgg4
 z4:=Tryz.sizeOf4
 v4:=Tryz.zeroValue4
 t22:=Tryz.underlying122
 a22:=Tryz.isAgg122
 z22:=Tryz.sizeOf122
 v22:=Tryz.zeroValue122 }
def Tryz.cloneW_ren:Go.Shelf.Ren:=⟨fun | 41=>222 | n=>n,fun | 22=>76 | 23=>273 | 4=>4 | n=>n,fun | n=>n⟩
theorem Tryz.cloneW:Go.Proofs.SlLaysE0.n41 Tryz.prog Tryz.cloneW_ren:={
 mixed:=by kernel_rfl
 f41:=⟨Tryz.f222.name,by decide,Tryz.func222.trans (congrArg some (by kernel_rfl))⟩
 t4:=Tryz.underlying4
 a4:=Tryz.isAgg4
 z4:=Tryz.sizeOf4
 v4:=Tryz.zeroValue4
 t22:=Tryz.underlying76
 a22:=Tryz.isAgg76
 z22:=Tryz.sizeOf76
 v22:=Tryz.zeroValue76 }
def Tryz.cloneK_ren:Go.Shelf.Ren:=⟨fun | 41=>68 | n=>n,fun | 22=>57 | 23=>150 | 4=>4 | n=>n,fun | n=>n⟩
theorem Tryz.cloneK:Go.Proofs.SlLaysE0.n41 Tryz.prog Tryz.cloneK_ren:={
 mixed:=by kernel_rfl
 f41:=⟨Tryz.f68.name,by decide,Tryz.func68.trans (congrArg some (by kernel_rfl))⟩
 t4:=Tryz.underlying4
 a4:=Tryz.isAgg4
 z4:=Tryz.sizeOf4
 v4:=Tryz.zeroValue4
 t22:=Tryz.underlying57
 a22:=Tryz.isAgg57
 z22:=Tryz.sizeOf57
 v22:=Tryz.zeroValue57 }
def Tryz.cloneKid_ren:Go.Shelf.Ren:=⟨fun | 41=>202 | n=>n,fun | 22=>132 | 23=>224 | 4=>4 | n=>n,fun | n=>n⟩
theorem Tryz.cloneKid:Go.Proofs.SlLaysE0.n41 Tryz.prog Tryz.cloneKid_ren:={
 mixed:=by kernel_rfl
 f41:=⟨Tryz.f202.name,by decide,Tryz.func202.trans (congrArg some (by kernel_rfl))⟩
 t4:=Tryz.underlying4
 a4:=Tryz.isAgg4
 z4:=Tryz.sizeOf4
 v4:=Tryz.zeroValue4
 t22:=Tryz.underlying132
 a22:=Tryz.isAgg132
 z22:=Tryz.sizeOf132
 v22:=Tryz.zeroValue132 }
def Tryz.cfInt_ren:Go.Shelf.Ren:=⟨fun | 8=>269 | 6=>305 | n=>n,fun | 22=>220 | 23=>3 | 25=>271 | 4=>4 | 3=>3 | 0=>0 | n=>n,fun | n=>n⟩
theorem Tryz.cfInt:Go.Proofs.SlLaysH.n8 Tryz.prog Tryz.cfInt_ren:={
 mixed:=by kernel_rfl
 f6:=⟨Tryz.f305.name,by decide,Tryz.func305.trans (congrArg some (by kernel_rfl))⟩
 f8:=⟨Tryz.f269.name,by decide,Tryz.func269.trans (congrArg some (by kernel_rfl))⟩
 t0:=Tryz.underlying0
 a0:=Tryz.isAgg0
 z0:=Tryz.sizeOf0
 v0:=Tryz.zeroValue0
 t3:=Tryz.underlying3
 a3:=Tryz.isAgg3
 z3:=Tryz.sizeOf3
 v3:=Tryz.zeroValue3
 t4:=Tryz.underlying4
 a4:=Tryz.isAgg4
 z4:=Tryz.sizeOf4
 v4:=Tryz.zeroValue4
 t22:=Tryz.underlying220
 a22:=Tryz.isAgg220
 z22:=Tryz.sizeOf220
 v22:=Tryz.zeroValue220
 a23:=Tryz.isAgg3
 z23:=Tryz.sizeOf3
 t25:=Tryz.underlying271
 a25:=Tryz.isAgg271
 z25:=Tryz.sizeOf271
 v25:=Tryz.zeroValue271 }
def Tryz.cfStr_ren:Go.Shelf.Ren:=⟨fun | 8=>207 | 6=>260 | n=>n,fun | 22=>22 | 23=>9 | 25=>195 | 4=>4 | 3=>3 | 0=>0 | n=>n,fun | n=>n⟩
theorem Tryz.cfStr:Go.Proofs.SlLaysH.n8 Tryz.prog Tryz.cfStr_ren:={
 mixed:=by kernel_rfl
 f6:=⟨Tryz.f260.name,by decide,Tryz.func260.trans (congrArg some (by kernel_rfl))⟩
 f8:=⟨Tryz.f207.name,by decide,Tryz.func207.trans (congrArg some (by kernel_rfl))⟩
 t0:=Tryz.underlying0
 a0:=Tryz.isAgg0
 z0:=Tryz.sizeOf0
 v0:=Tryz.zeroValue0
 t3:=Tryz.underlying3
 a3:=Tryz.isAgg3
 z3:=Tryz.sizeOf3
 v3:=Tryz.zeroValue3
 t4:=Tryz.underlying4
 a4:=Tryz.isAgg4
 z4:=Tryz.sizeOf4
 v4:=Tryz.zeroValue4
 t22:=Tryz.underlying22
 a22:=Tryz.isAgg22
 z22:=Tryz.sizeOf22
 v22:=Tryz.zeroValue22
 a23:=Tryz.isAgg9
 z23:=Tryz.sizeOf9
 t25:=Tryz.underlying195
 a25:=Tryz.isAgg195
 z25:=Tryz.sizeOf195
 v25:=Tryz.zeroValue195 }
def Tryz.keysStat_ren:Go.Shelf.Ren:=⟨fun | 7=>247 | 10=>292 | n=>n,fun | 23=>83 | 26=>3 | 3=>252 | 28=>339 | 0=>0 | 27=>338 | 33=>271 | 4=>4 | n=>n,fun | n=>n⟩
theorem Tryz.keysStat:Go.Proofs.SlLaysZI.n7 Tryz.prog Tryz.keysStat_ren:={
 mixed:=by kernel_rfl
 f7:=⟨Tryz.f247.name,by decide,Tryz.func247.trans (congrArg some (by kernel_rfl))⟩
 f10:=⟨Tryz.f292.name,by decide,Tryz.func292.trans (congrArg some (by kernel_rfl))⟩
 t0:=Tryz.underlying0
 a0:=Tryz.isAgg0
 z0:=Tryz.sizeOf0
 v0:=Tryz.zeroValue0
 t4:=Tryz.underlying4
 a4:=Tryz.isAgg4
 z4:=Tryz.sizeOf4
 v4:=Tryz.zeroValue4
 t23:=Tryz.underlying83
 a23:=Tryz.isAgg83
 z23:=Tryz.sizeOf83
 v23:=Tryz.zeroValue83
 t26:=Tryz.underlying3
 a26:=Tryz.isAgg3
 z26:=Tryz.sizeOf3
 v26:=Tryz.zeroValue3
 t27:=Tryz.underlying338
 a27:=Tryz.isAgg338
 z27:=Tryz.sizeOf338
 v27:=Tryz.zeroValue338
 t28:=Tryz.underlying339
 a28:=Tryz.isAgg339
 z28:=Tryz.sizeOf339
 v28:=Tryz.zeroValue339
 t33:=Tryz.underlying271
 a33:=Tryz.isAgg271
 z33:=Tryz.sizeOf271
 v33:=Tryz.zeroValue271 }
def Tryz.keysEnt_ren:Go.Shelf.Ren:=⟨fun | 7=>272 | 10=>307 | n=>n,fun | 23=>86 | 26=>3 | 3=>203 | 28=>339 | 0=>0 | 27=>338 | 33=>271 | 4=>4 | n=>n,fun | n=>n⟩
theorem Tryz.keysEnt:Go.Proofs.SlLaysZI.n7 Tryz.prog Tryz.keysEnt_ren:={
 mixed:=by kernel_rfl
 f7:=⟨Tryz.f272.name,by decide,Tryz.func272.trans (congrArg some (by kernel_rfl))⟩
 f10:=⟨Tryz.f307.name,by decide,Tryz.func307.trans (congrArg some (by kernel_rfl))⟩
 t0:=Tryz.underlying0
 a0:=Tryz.isAgg0
 z0:=Tryz.sizeOf0
 v0:=Tryz.zeroValue0
 t4:=Tryz.underlying4
 a4:=Tryz.isAgg4
 z4:=Tryz.sizeOf4
 v4:=Tryz.zeroValue4
 t23:=Tryz.underlying86
 a23:=Tryz.isAgg86
 z23:=Tryz.sizeOf86
 v23:=Tryz.zeroValue86
 t26:=Tryz.underlying3
 a26:=Tryz.isAgg3
 z26:=Tryz.sizeOf3
 v26:=Tryz.zeroValue3
 t27:=Tryz.underlying338
 a27:=Tryz.isAgg338
 z27:=Tryz.sizeOf338
 v27:=Tryz.zeroValue338
 t28:=Tryz.underlying339
 a28:=Tryz.isAgg339
 z28:=Tryz.sizeOf339
 v28:=Tryz.zeroValue339
 t33:=Tryz.underlying271
 a33:=Tryz.isAgg271
 z33:=Tryz.sizeOf271
 v33:=Tryz.zeroValue271 }
def Tryz.sortedI_ren:Go.Shelf.Ren:=⟨fun | 6=>246 | 8=>290 | 9=>291 | 11=>315 | 13=>236 | 12=>316 | 23=>285 | 24=>265 | 14=>321 | 15=>322 | 16=>323 | 17=>324 | 18=>325 | 19=>326 | 20=>327 | 21=>328 | 22=>329 | 25=>331 | 26=>310 | 27=>311 | 28=>332 | 29=>333 | 30=>334 | 31=>335 | n=>n,fun | 26=>3 | 28=>339 | 24=>220 | 0=>0 | 3=>3 | 37=>112 | 48=>175 | 50=>178 | 4=>4 | 40=>364 | 39=>363 | 45=>127 | 5=>5 | 9=>9 | 51=>385 | 55=>389 | 57=>397 | 58=>43 | 33=>271 | n=>n,fun | n=>n⟩
theorem Tryz.sortedI:Go.Proofs.SlLaysZI.n6 Tryz.prog Tryz.sortedI_ren:={
 mixed:=by kernel_rfl
 f6:=⟨Tryz.f246.name,by decide,Tryz.func246.trans (congrArg some (by kernel_rfl))⟩
 f8:=⟨Tryz.f290.name,by decide,Tryz.func290.trans (congrArg some (by kernel_rfl))⟩
 f11:=⟨Tryz.f315.name,by decide,Tryz.func315.trans (congrArg some (by kernel_rfl))⟩
 t0:=Tryz.underlying0
 a0:=Tryz.isAgg0
 z0:=Tryz.sizeOf0
 v0:=Tryz.zeroValue0
 t24:=Tryz.underlying220
 a24:=Tryz.isAgg220
 z24:=Tryz.sizeOf220
 v24:=Tryz.zeroValue220
 t26:=Tryz.underlying3
 a26:=Tryz.isAgg3
 z26:=Tryz.sizeOf3
 v26:=Tryz.zeroValue3
 t28:=Tryz.underlying339
 a28:=Tryz.isAgg339
 z28:=Tryz.sizeOf339
 v28:=Tryz.zeroValue339
 i26:=by kernel_rfl }
def Tryz.sortI_ren:Go.Shelf.Ren:=⟨fun | 5=>291 | 8=>236 | 7=>316 | 19=>285 | 20=>265 | 10=>321 | 11=>322 | 12=>323 | 13=>324 | 14=>325 | 15=>326 | 16=>327 | 17=>328 | 18=>329 | 30=>331 | 31=>310 | 32=>311 | 33=>332 | 34=>333 | 35=>334 | 40=>335 | n=>n,fun | 23=>220 | 25=>3 | 3=>3 | 32=>112 | 22=>220 | 0=>0 | 44=>175 | 46=>178 | 4=>4 | 36=>364 | 35=>363 | 41=>127 | 5=>5 | 9=>9 | 53=>385 | 57=>389 | 63=>397 | 64=>43 | n=>n,fun | n=>n⟩
theorem Tryz.sortI:Go.Proofs.SlLaysM.n5 Tryz.prog Tryz.sortI_ren:={
 mixed:=by kernel_rfl
 f5:=⟨Tryz.f291.name,by decide,Tryz.func291.trans (congrArg some (by kernel_rfl))⟩
 f7:=⟨Tryz.f316.name,by decide,Tryz.func316.trans (congrArg some (by kernel_rfl))⟩
 f8:=Tryz.func236.trans (congrArg some (by kernel_rfl))
 f10:=⟨Tryz.f321.name,by decide,Tryz.func321.trans (congrArg some (by kernel_rfl))⟩
 f11:=⟨Tryz.f322.name,by decide,Tryz.func322.trans (congrArg some (by kernel_rfl))⟩
 f12:=⟨Tryz.f323.name,by decide,Tryz.func323.trans (congrArg some (by kernel_rfl))⟩
 f13:=⟨Tryz.f324.name,by decide,Tryz.func324.trans (congrArg some (by kernel_rfl))⟩
 f14:=⟨Tryz.f325.name,by decide,Tryz.func325.trans (congrArg some (by kernel_rfl))⟩
 f15:=⟨Tryz.f326.name,by decide,Tryz.func326.trans (congrArg some (by kernel_rfl))⟩
 f16:=⟨Tryz.f327.name,by decide,Tryz.func327.trans (congrArg some (by kernel_rfl))⟩
 f17:=⟨Tryz.f328.name,by decide,Tryz.func328.trans (congrArg some (by kernel_rfl))⟩
 f18:=⟨Tryz.f329.name,by decide,Tryz.func329.trans (congrArg some (by kernel_rfl))⟩
 f19:=Tryz.func285.trans (congrArg some (by kernel_rfl))
 f20:=Tryz.func265.trans (congrArg some (by kernel_rfl))
 f30:=⟨Tryz.f331.name,by decide,Tryz.func331.trans (congrArg some (by kernel_rfl))⟩
 f31:=Tryz.func310.trans (congrArg some (by kernel_rfl))
 f32:=Tryz.func311.trans (congrArg some (by kernel_rfl))
 f33:=⟨Tryz.f332.name,by decide,Tryz.func332.trans (congrArg some (by kernel_rfl))⟩
 f34:=⟨Tryz.f333.name,by decide,Tryz.func333.trans (congrArg some (by kernel_rfl))⟩
 f35:=⟨Tryz.f334.name,by decide,Tryz.func334.trans (congrArg some (by kernel_rfl))⟩
 f40:=⟨Tryz.f335.name,by decide,Tryz.func335.trans (congrArg some (by kernel_rfl))⟩
 t0:=Tryz.underlying0
 a0:=Tryz.isAgg0
 z0:=Tryz.sizeOf0
 v0:=Tryz.zeroValue0
 t3:=Tryz.underlying3
 a3:=Tryz.isAgg3
 z3:=Tryz.sizeOf3
 v3:=Tryz.zeroValue3
 t4:=Tryz.underlying4
 a4:=Tryz.isAgg4
 z4:=Tryz.sizeOf4
 v4:=Tryz.zeroValue4
 t5:=Tryz.underlying5
 a5:=Tryz.isAgg5
 z5:=Tryz.sizeOf5
 v5:=Tryz.zeroValue5
 t9:=Tryz.underlying9
 a9:=Tryz.isAgg9
 z9:=Tryz.sizeOf9
 v9:=Tryz.zeroValue9
 t22:=Tryz.underlying220
 a22:=Tryz.isAgg220
 z22:=Tryz.sizeOf220
 v22:=Tryz.zeroValue220
 t23:=Tryz.underlying220
 a23:=Tryz.isAgg220
 z23:=Tryz.sizeOf220
 v23:=Tryz.zeroValue220
 t25:=Tryz.underlying3
 a25:=Tryz.isAgg3
 z25:=Tryz.sizeOf3
 v25:=Tryz.zeroValue3
 t32:=Tryz.underlying112
 a32:=Tryz.isAgg112
 z32:=Tryz.sizeOf112
 v32:=Tryz.zeroValue112
 t35:=Tryz.underlying363
 a35:=Tryz.isAgg363
 z35:=Tryz.sizeOf363
 v35:=Tryz.zeroValue363
 t36:=Tryz.underlying364
 a36:=Tryz.isAgg364
 z36:=Tryz.sizeOf364
 v36:=Tryz.zeroValue364
 t41:=Tryz.underlying127
 a41:=Tryz.isAgg127
 z41:=Tryz.sizeOf127
 v41:=Tryz.zeroValue127
 t44:=Tryz.underlying175
 a44:=Tryz.isAgg175
 z44:=Tryz.sizeOf175
 v44:=Tryz.zeroValue175
 t46:=Tryz.underlying178
 a46:=Tryz.isAgg178
 z46:=Tryz.sizeOf178
 v46:=Tryz.zeroValue178
 t53:=Tryz.underlying385
 a53:=Tryz.isAgg385
 z53:=Tryz.sizeOf385
 v53:=Tryz.zeroValue385
 t57:=Tryz.underlying389
 a57:=Tryz.isAgg389
 z57:=Tryz.sizeOf389
 v57:=Tryz.zeroValue389
 t63:=Tryz.underlying397
 a63:=Tryz.isAgg397
 z63:=Tryz.sizeOf397
 v63:=Tryz.zeroValue397
 t64:=Tryz.underlying43
 a64:=Tryz.isAgg43
 z64:=Tryz.sizeOf43
 v64:=Tryz.zeroValue43 }
def Tryz.mclone_ren:Go.Shelf.Ren:=⟨fun | 5=>112 | 7=>165 | n=>n,fun | 23=>201 | 25=>9 | 3=>3 | 4=>4 | 20=>20 | n=>n,fun | n=>n⟩
theorem Tryz.mclone:Go.Proofs.SlLaysW.n5 Tryz.prog Tryz.mclone_ren:={
 mixed:=by kernel_rfl
 f5:=⟨Tryz.f112.name,by decide,Tryz.func112.trans (congrArg some (by kernel_rfl))⟩
 f7:=Tryz.func165.trans (congrArg some (by kernel_rfl))
 t4:=Tryz.underlying4
 a4:=Tryz.isAgg4
 z4:=Tryz.sizeOf4
 v4:=Tryz.zeroValue4
 t20:=Tryz.underlying20
 a20:=Tryz.isAgg20
 z20:=Tryz.sizeOf20
 v20:=Tryz.zeroValue20
 t23:=Tryz.underlying201
 a23:=Tryz.isAgg201
 z23:=Tryz.sizeOf201
 v23:=Tryz.zeroValue201 }
end Go.Proofs
namespace Go.Proofs.YtbmkaekimccdgaaGreatDoor
open Go.RowKit Go.Sort Go.Shelf Stl
section
variable {w:World}{c:Nat→Col}{b:Nat}{U:List Bool}
theorem qKO (k:Nat)(bx:Nat)(h:SpaceAt w c b U)(hbx:w.heap[bx]?=some (.cells #[.pointer (some ⟨b,0,none⟩)] 79 (0,0))) :
  Calls Tryz.prog 270 #[.int .i64 k,.pointer (some ⟨bx,0,none⟩)] w fun e w'=>e=.returned (.bool (decide (U.length≤k)))∧w'=w:=by
 obtain⟨v,hb,hc,hr⟩:=h;obtain⟨A,cap,rfl⟩:=hr.slice;have c0:=ce0 hb;have d0:=ce0 hbx;have i1:¬ (k:Int)<0:=by omega
 clear hb hr hbx hc;go_enter Tryz.func270,Tryz.ntmps270;go_wp2;go_ret;exact⟨rfl,rfl⟩
theorem qGw (b off n cap:Nat)(l:List Nat)(x:Nat)(w:World)(hn:n≤l.length)(hbig:l.length≤1000000)(hc:∀ (j:Nat) y,l[j]?=some y→w.cell? ⟨b,off+j,none⟩=some (.int .i64 y))(hx:x∉l.take n) :
  Calls Tryz.prog 271 #[.slice (some ⟨b,off,none⟩) n cap,.int .i64 x] w fun e w'=>e=.returned (.bool false)∧w'=w:=by
 refine(Tryz.slices_Contains_int b off n cap (l.map fun k:Nat=>(k:Int)) x w (by simpa using hn) (by omega) (fun j hj=>?_)).mono ?_
 ·have hj':j<l.length:=by simpa using hj
  rw[hc j _ (zL hj')];simp[hj']
 ·rintro e w' ⟨rfl,h⟩;refine⟨?_,h⟩;congr 2;rw[← List.map_take];rw[Bool.eq_false_iff,ne_eq,List.contains_iff_mem,zb];rintro ⟨y,hy,e⟩;exact hx (by rw[← Int.ofNat.inj e];exact hy)
theorem qEO:∀ args w,(callFunc 270 args).run Tryz.prog w=.ok (.enter 270 args) w:=enters_of Tryz.func270 (by kernel_rfl) rfl
theorem qMh (h:SpaceAt w c b U){A:Option Addr}{l:List Nat}(hl:RoInts w c A l)(hll:l.length≤1000000)(cap:Nat)(hk:∀ k∈l,k<U.length)(bx:Nat)(hbx:w.heap[bx]?=some (.cells #[.pointer (some ⟨b,0,none⟩)] 79 (0,0))) :
  Calls Tryz.prog 269 #[.slice A l.length cap,.func (.func 270) #[] #[.pointer (some ⟨bx,0,none⟩)]] w fun e w'=>e=.returned (.bool false)∧Below w.heap.size w w':=by
 rcases Nat.eq_zero_or_pos l.length with h0 | h0
 ·rw[h0];refine(AnyE.slices_ContainsFunc_empty Tryz.cfInt A cap _ w).mono ?_;rintro e w' ⟨rfl,rfl⟩;exact⟨rfl,zB _ _⟩
 ·obtain⟨g,off,rfl,hg,hgc,hcells⟩:=hl (by intro e;rw[e] at h0;simp at h0);refine(AnyE.slices_ContainsFunc Tryz.cfInt dW (fun k=>decide (U.length≤k)) _ _ qEO g off l.length cap l w (fun W x hb=>?_) (zo _) (by omega) (fun j hj=>by
   rw[hcells j _ (zL hj)]
   simp[hj])).mono ?_
  ·refine(qKO x bx (h.ext (Ext.of_below hb c S0) rfl rfl) ((hb.block _ (qA hbx)).trans hbx)).mono ?_;rintro e w' ⟨rfl,rfl⟩;exact⟨rfl,0,rfl⟩
  ·rintro e w' ⟨rfl,q,rfl⟩;refine⟨?_,Below.drewN (zB _ _) q⟩;congr 2;rw[zk,List.any_eq_false];intro x hx;have:=hk x hx;simp;omega
theorem qMd (h:SpaceAt w c b U)(hU:U.length≤1000000){A:Option Addr}{l:List Nat}(hl:RoInts w c A l)(hll:l.length≤1000000)(cap:Nat)(hcap:l.length≤cap)(hnd:l.Nodup)(hon:∀ k∈l,U[k]?=some true) :
  Calls Tryz.prog 226 #[.pointer (some ⟨b,0,none⟩),.slice A l.length cap] w fun e w'=>e=.returned .nilIface∧∃ c2,Ext w w' c c2 (S1 .used)∧SpaceAt w' c2 b (yV U false l):=by
 have hk:∀ k∈l,k<U.length:=fun k hk=>(zM.1 (hon k hk)).1
 have e0:=Ext.made w c S0 (.cells #[.pointer (some ⟨b,0,none⟩)] 79) .free;have HCF:=Hh (qM c w.heap.size .free);have hbx:=zK1 w (.cells #[.pointer (some ⟨b,0,none⟩)] 79);have HC:=Hh (qMh (h.ext e0 rfl rfl) (hl.ext e0 rfl) hll cap hk w.heap.size hbx);have HE0:=Hh e0;have HBX:=Hh hbx;have HS:=Hh h;have HL:=Hh hl;have HN:=Hh hnd;have HON:=Hh hon;clear h hl hnd hon hk e0 hbx;generalize jC c w.heap.size .free=c1 at *;go_enter Tryz.func226,Tryz.ntmps226;go_upto_region 3 with (go_at_call 269;refine HC.o.mono ?_;rintro ev w2 ⟨rfl,hb2⟩);have e2:=HE0.o.trans (Ext.of_below hb2 c1 S0);obtain⟨v,hb',hc',hr⟩:=HS.o.ext e2 rfl rfl;obtain⟨A3,cap3,rfl⟩:=hr.slice;have HV:=Hh (SpaceV.mk hb' hc' hr);have HL2:=Hh (HL.o.ext e2 rfl);have HB2:=Hh ((hb2.block _ (qA HBX.o)).trans HBX.o);have HE2:=Hh (e2.mono (S':=S1 .used) (fun _ _=>rfl));clear hb' hr hb2 e2 hc';go_wp2_with fail
 go_loopw [15] (fun a wr=>wr=w2∧∃ i:Nat,i≤l.length∧a=.int .i64 i) (fun a _=>l.length-(intOf a).toNat)
 case atStart=>exact⟨rfl,0,zw _,rfl⟩
 case round =>
  obtain⟨rfl,i,hi,rfl⟩:=hrel;by_cases hil:i<l.length
  ·have i1:(i:Int)<(l.length:Int):=by omega
   have i2:(0:Int)≤(i:Int):=by omega
   obtain⟨g,off,rfl,hg,hgc,hcells⟩:=HL2.o (by intro e;rw[e] at hil;simp at hil);have HCI:=Hh (fun x hx=>qGw g off i cap l x wr hi hll hcells hx);have q0:=hcells i _ (zL hil);have HX:=Hh (show l[i]∉l.take i from fun hm=>by
    obtain⟨j,hj,e⟩:=List.mem_take_iff_getElem.1 hm
    have h1:=(List.getElem_inj HN.o).1 e
    omega)
   have hOI:=HON.o _ (zO hil);generalize l[i]=k at *;have hkU:=(zM.1 hOI).1;obtain⟨g3,cap4,e3,hg3,hgl3,_,_⟩:=HV.o.row.pos (by omega);simp only[zC1] at e3;obtain⟨rfl,_,rfl⟩:=e3;have c0:=ce0 HV.o.own;have d0:=ce0 HB2.o;have r0:wr.cell? ⟨g3,k,none⟩=some (.bool true):=by
    rw[HV.o.row.cellAt k (by omega),zN,hOI];rfl
   have i3:(k:Int)<(U.length:Int):=by omega
   have i4:(0:Int)≤(k:Int):=by omega
   have i5:i≤cap:=by omega
   have i6:(i:Int)≤(cap:Int):=by omega
   clear hcells hOI;go_wp2_with (go_at_call 271;refine(HCI.o _ HX.o).mono ?_;rintro ev wz ⟨rfl,rfl⟩);go_roundw
   case rel=>exact⟨trivial,i+1,hil,by go_num⟩
   case measure=>simp[intOf];omega
  ·have i1:¬ (i:Int)<(l.length:Int):=by omega
   obtain⟨wo,rfl⟩:∃ x:World,x=wr:=⟨_,rfl⟩;go_wp2_with fail
   go_loopw [39] (fun a wq=>∃ i:Nat,i≤l.length∧a=.int .i64 i∧Hg (Ext wo wq c1 c1 (S1 .used))∧Hg (SpaceV wq c1 b (.slice A3 U.length cap3) U.length (yV U false (l.take i)))) (fun a _=>l.length-(intOf a).toNat)
   case atStart=>exact⟨0,zw _,rfl,Hh (Ext.refl _ _ _),by simpa[yV] using HV⟩
   case round =>
    obtain⟨i,hi,rfl,HEq,HVq⟩:=hrel;by_cases hil:i<l.length
    ·have i1:(i:Int)<(l.length:Int):=by omega
     have i2:(0:Int)≤(i:Int):=by omega
     obtain⟨g,off,rfl,hg,hgc,hcells⟩:=(HL2.o.ext HEq.o rfl) (by intro e;rw[e] at hil;simp at hil);have q0:=hcells i _ (zL hil);have HT:=Hh (zn hil);have hkU:=(zM.1 (HON.o _ (zO hil))).1;generalize l[i]=k at *;obtain⟨g3,cap4,e3,hg3,hgl3,_,_⟩:=HVq.o.row.pos (by omega);simp only[zC1] at e3;obtain⟨rfl,_,rfl⟩:=e3;have c0:=ce0 HVq.o.own;have d0:=ce0 (HEq.o.kept HB2.o HCF.o rfl).1;have r0:∃ u,wr.cell? ⟨g3,k,none⟩=some u:=by
      have hl:=HVq.o.row.length;have:=HVq.o.row.cellAt k (by omega);rw[zL (by omega)] at this;exact⟨_,this⟩
     obtain⟨u0,r0⟩:=r0;have f0:=HVq.o.row.frozenAt k;have i3:(k:Int)<(U.length:Int):=by omega
     have i4:(0:Int)≤(k:Int):=by omega
     clear hcells;go_wp2;go_roundw
     case rel =>
      obtain⟨h3,e3⟩:=HVq.o.row.stored k (.bool false);refine⟨i+1,hil,by go_num,Hh (HEq.o.trans e3),Hh ⟨(e3.kept HVq.o.own HVq.o.col rfl).1,HVq.o.col,?_⟩⟩;rw[HT.o,qAs];simpa[yV,List.map_set] using h3
     case measure=>simp[intOf];omega
    ·have i1:¬ (i:Int)<(l.length:Int):=by omega
     have HT:=Hh (show l.take i=l from zm (by omega));rw[HT.o] at HVq;go_wp2;go_ret;exact⟨rfl,c1,HE2.o.trans HEq.o,HVq.o.at' (yQ _ _ _)⟩
end
end Go.Proofs.YtbmkaekimccdgaaGreatDoor
namespace Go.Proofs.YtbmkaekimccdgaaGreatDoor
open Go.RowKit Go.Sort Stl
theorem gY (w:World):(zeroValue 252).run Tryz.prog w=.ok (.pointer none) w:=by kernel_rfl
section
variable {w:World}{c:Nat→Col}{b:Nat}{T:Tab}
theorem qJx {bd bs bm:Nat}{st:Nat→Nat}(h:TabIn w c b T bd bs bm st) :
  Calls Tryz.prog 127 #[.pointer (some ⟨b,0,none⟩)] w fun e w'=>e=.returned (.pointer (some ⟨bd,0,none⟩))∧w'=w:=by
 have c0:=ce0 h.own;clear h;go_enter Tryz.func127,Tryz.ntmps127;go_wp2;go_ret;exact⟨rfl,rfl⟩
theorem qCK (h:TabAt w c b T)(hU:T.disk.length≤1000000) :
  Calls Tryz.prog 130 #[.pointer (some ⟨b,0,none⟩)] w fun e w'=>e=.returned (.int .i64 T.free.length)∧Below w.heap.size w w':=by
 obtain⟨bd,bs,bm,st,h⟩:=h;have c1:=ce1 h.own;have HS:=Hh h.space;have HO:=Hh (hQ T);clear h;have hU2:(vN T).length≤1000000:=by rw[jB];exact hU
 go_enter Tryz.func130,Tryz.ntmps130;go_wp2_with (go_at_call 188;refine(qE3 HS.o hU2).mono ?_;rintro ev w2 ⟨rfl,hb⟩);go_ret;exact⟨by rw[← HO.o];rfl,hb⟩
theorem TabIn.cells {bd bs bm:Nat}{st:Nat→Nat}(h:TabIn w c b T bd bs bm st){n:Nat}{x:Ino}(hx:T.at_ n=some x):∃ A cap,w.heap[st n]?=some (.cells (jN x A cap) 254 (0,0))∧c (st n)=.stat n∧x.blocks.length≤cap∧RoInts w c A x.blocks:=h.stats n x hx
theorem TabIn.relink {bd bs bm:Nat}{st:Nat→Nat}(h:TabIn w c b T bd bs bm st){n:Nat}{x:Ino}(hx:T.at_ n=some x)(m:Nat) :
  TabIn (w.setCell ⟨st n,1,none⟩ (.int .i64 m)) c b { T with l:=T.l.set n (some { x with links:=m }) } bd bs bm st∧Ext w (w.setCell ⟨st n,1,none⟩ (.int .i64 m)) c c (S1 (.stat n)):=by
 obtain⟨A,cap,h1,h2,h3,h4⟩:=h.cells hx;obtain⟨h5,e⟩:=Ext.cell h1 h2 1 (.int .i64 m);have hn:=nH hx;have hat:∀ k,Tab.at_ { T with l:=T.l.set n (some { x with links:=m }) } k=if k=n then some { x with links:=m } else T.at_ k:=fun k=>uU T.l n _ hn k
 have hu:vN { T with l:=T.l.set n (some { x with links:=m }) }=vN T:=qB7 rfl fun k=>by
  rw[hat];by_cases hk:k=n
  ·subst hk;rw[zM1 rfl,hx];rfl
  ·rw[zL1 hk]
 refine⟨⟨(e.kept h.own h.col rfl).1,h.col,h.disk.ext e rfl rfl,by rw[hu];exact h.space.ext e rfl rfl,h.mcol,?_,?_⟩,e⟩
 ·have:=(h.map.ext e h.mcol rfl).congr (g:=jT { T with l:=T.l.set n (some { x with links:=m }) } st) (fun k=>by
   unfold jT
   rw[hat]
   by_cases hk:k=n
   ·subst hk;rw[zM1 rfl,hx];rfl
   ·rw[zL1 hk])
  simpa using this
 ·intro k y hy;rw[hat] at hy;by_cases hk:k=n
  ·subst hk;rw[zM1 rfl] at hy
   cases hy
   exact⟨A,cap,by simpa[jN] using h5,h2,h3,h4.ext e rfl⟩
  ·rw[zL1 hk] at hy;exact(h.stats k y hy).ext e (yU (fun e=>hk (by injection e))) rfl
theorem qLX (h:TabAt w c b T)(n:Nat)(hn:n≤1000000){x:Ino}(hx:T.at_ n=some x)(hl:x.links≤1000000000) :
  Calls Tryz.prog 274 #[.pointer (some ⟨b,0,none⟩),.int .i64 n] w fun e w'=>e=.returned .nilIface∧Ext w w' c c (S1 (.stat n))∧TabAt w' c b { T with l:=T.l.set n (some { x with links:=x.links+1 }) }:=by
 obtain⟨bd,bs,bm,st,h⟩:=h;obtain⟨A,cap,h1,h2,h3,h4⟩:=h.cells hx;have hsx:jT T st n=some (.pointer (some ⟨st n,0,none⟩)):=by unfold jT;rw[hx];rfl
 have hlk:=h.map.getOk (t:=83) okN Tryz.underlying83 (gY w) (i:=n) (by omega);rw[hsx] at hlk;simp only[zx,Option.isSome_some,mkN] at hlk;have H:=Hh h;have c2:=ce2 h.own;have q1:=ce1 h1;have f1:=qC h1 1;have HX:=Hh hx;clear h h1 h2 h3 h4 hsx hx;go_enter Tryz.func274,Tryz.ntmps274;go_wp2;go_ret;obtain⟨h5,e5⟩:=H.o.relink HX.o (x.links+1);exact⟨rfl,e5,bd,bs,bm,st,h5⟩
theorem TabIn.gone {bd bs bm:Nat}{st:Nat→Nat}{w2:World}{c2:Nat→Col}(h:TabIn w c b T bd bs bm st){n:Nat}{x:Ino}(hx:T.at_ n=some x)(ht:yX T)(e:Ext w w2 c c2 (fun y=>decide (y=.used)||decide (y=.tabMap)||decide (y=.stat n)))
  (hm:gS w2 bm T.l.length (fun j=>if j=n then none else jT T st j)) (hmc:c2 bm=.tabMap) (hs:SpaceAt w2 c2 bs (yV (vN T) false x.blocks)):TabIn w2 c2 b { T with l:=T.l.set n none } bd bs bm st:=by
 have hn:=nH hx;have hat:∀ k,Tab.at_ { T with l:=T.l.set n none } k=if k=n then none else T.at_ k:=fun k=>uU T.l n _ hn k
 refine⟨(e.kept h.own h.col rfl).1,(e.kept h.own h.col rfl).2,h.disk.ext e rfl rfl,by rw[qGq ht hx];exact hs,hmc,?_,?_⟩
 ·have:=hm.congr (g:=jT { T with l:=T.l.set n none } st) (fun k=>by
   unfold jT
   rw[hat]
   by_cases hk:k=n
   ·simp[hk]
   ·simp[hk])
  simpa using this
 ·intro k y hy;rw[hat] at hy;by_cases hk:k=n
  ·rw[zM1 hk] at hy;cases hy
  ·rw[zL1 hk] at hy;refine(h.stats k y hy).ext e ?_ rfl;simp[hk]
theorem qDB (h:TabAt w c b T)(ht:yX T)(hD:T.disk.length≤1000000)(n:Nat)(hn:n≤1000000){x:Ino}(hx:T.at_ n=some x)(hl:x.links≤1000000000) :
  Calls Tryz.prog 168 #[.pointer (some ⟨b,0,none⟩),.int .i64 n] w fun e w'=>e=.returned .nilIface∧∃ c2,Ext w w' c c2 oC∧TabAt w' c2 b { T with l:=T.l.set n (if x.links=1 then none else some { x with links:=x.links-1 }) }:=by
 obtain⟨bd,bs,bm,st,h⟩:=h;obtain⟨A,cap,h1,h2,h3,h4⟩:=h.cells hx;have hsx:jT T st n=some (.pointer (some ⟨st n,0,none⟩)):=by unfold jT;rw[hx];rfl
 have hlk:=h.map.getOk (t:=83) okN Tryz.underlying83 (gY w) (i:=n) (by omega);rw[hsx] at hlk;simp only[zx,Option.isSome_some,mkN] at hlk;have H:=Hh h;have HT:=Hh ht;have c2:=ce2 h.own;have q1:=ce1 h1;have f1:=qC h1 1;have HX:=Hh hx;have hl1:=ht.links n x hx;have i1:(x.links:Int)-1=((x.links-1:Nat):Int):=by omega
 clear h h1 h2 h3 h4 hsx hx ht;go_enter Tryz.func168,Tryz.ntmps168;go_upto_region 5 with fail;obtain⟨H1,e1⟩:=H.o.relink HX.o (x.links-1);have H1':=Hh H1;have HE1:=Hh e1;obtain⟨A',cap',h1,h2,h3,h4⟩:=H.o.cells HX.o;have q1:(w.setCell ⟨st n,1,none⟩ (.int .i64 ((x.links-1:Nat):Int))).cell? ⟨st n,1,none⟩=some (.int .i64 ((x.links-1:Nat):Int)):=by
  rw[zJ1 _ (st n) 1 _ _ _ (Ext.cell h1 h2 1 _).1];rfl
 have q3:(w.setCell ⟨st n,1,none⟩ (.int .i64 ((x.links-1:Nat):Int))).cell? ⟨st n,3,none⟩=some (.slice A' x.blocks.length cap'):=by
  rw[zJ1 _ (st n) 3 _ _ _ (Ext.cell h1 h2 1 _).1];rfl
 have HB:=Hh (Ext.cell h1 h2 1 (.int .i64 ((x.links-1:Nat):Int))).1;have HRO:=Hh (h4.ext e1 rfl);have HC3:=Hh h3;clear H1 e1 hlk c2 f1 h1 h2 h3 h4;generalize w.setCell ⟨st n,1,none⟩ (.int .i64 ((x.links-1:Nat):Int))=W1 at *;by_cases hy:x.links=1
 case neg =>
  have HY:=Hh hy;have j1:¬ ((x.links-1:Nat):Int)=0:=by omega
  clear hy;go_wp2;go_ret;exact⟨rfl,c,HE1.o.mono (S':=oC) (jP rfl),bd,bs,bm,st,H1'.o⟩
 case pos =>
  have j1:x.links-1=0:=by omega
  rw[j1] at q1;rw[j1];have HY:=Hh hy;clear hy j1 i1;have HS1:=Hh (H.o.space.ext HE1.o rfl rfl);have HM1:=Hh (H.o.map.ext HE1.o H.o.mcol rfl);have hw:=HE1.o.kept H.o.own H.o.col rfl;have c2:=ce2 hw.1;have HW:=Hh hw;clear hw;go_upto_region 7 with (at_delete;refine qBw rfl _ _ 83 252 rfl okN Tryz.underlying83 rfl HM1.o n (by omega) rfl ?_;intro W2 hmap hturn);have he2:=Ext.turned hturn (c:=c) H.o.mcol;have HE2:=Hh he2;have HMP:=Hh hmap;have HW2:=Hh (he2.kept HW.o.1 HW.o.2 rfl);have HB2:=Hh (he2.kept HB.o (H.o.stats n x HX.o).choose_spec.choose_spec.2.1 rfl);have c1:=ce1 HW2.o.1;have q3':W2.cell? ⟨st n,3,none⟩=some (.slice A' x.blocks.length cap'):=by rw[zJ1 W2 (st n) 3 _ _ _ HB2.o.1];rfl
  clear hturn hmap he2 c2 q1 q3;have HS2:=Hh (HS1.o.ext (HE2.o.trans ((Ext.refl W2 c (S1 .tabMap)).drew)) rfl rfl);have HR2:=Hh (HRO.o.ext (HE2.o.trans ((Ext.refl W2 c (S1 .tabMap)).drew)) rfl);have hbl:x.blocks.length≤1000000:=by rw[HT.o.need n x HX.o];have:=HT.o.bytes n x HX.o;unfold jL;omega
  have hU:(vN T).length≤1000000:=by rw[jB];exact hD
  have HON:=Hh (show ∀ k∈x.blocks,(vN T)[k]?=some true from fun k hk=>by
   rw[gV (HT.o.inside n x HX.o k hk)]
   exact congrArg some (jE.2 ⟨n,x,HX.o,hk⟩))
  have HND:=Hh (HT.o.nodup n x HX.o)
  go_region_held3 (fun w'=>w'.cell? ⟨b,1,none⟩=some (.pointer (some ⟨bs,0,none⟩))∧w'.cell? ⟨st n,3,none⟩=some (.slice A' x.blocks.length cap'))
   (first
    | exact⟨c1,q3'⟩
    | go_keep)
   (first
    | (go_at_call 226;refine(qMd HS2.o hU HR2.o hbl cap' HC3.o HND.o HON.o).mono ?_;rintro ev W4 ⟨rfl,c4,he4,hs4⟩;have c1':W4.cell? ⟨b,1,none⟩=some (.pointer (some ⟨bs,0,none⟩)):=zJ1 W4 b 1 _ _ _ (he4.kept HW2.o.1 HW2.o.2 rfl).1;have q3'':W4.cell? ⟨st n,3,none⟩=some (.slice A' x.blocks.length cap'):=zJ1 W4 (st n) 3 _ _ _ (he4.kept HB2.o.1 HB2.o.2 rfl).1)
    | fail)
  have HG:=Hh (TabIn.gone H.o HX.o HT.o
   ((((HE1.o.mono (S':=fun y=>decide (y=.used)||decide (y=.tabMap)||decide (y=.stat n)) (jP (by simp))).then HE2.o (jP (by simp))).drew).then he4 (jP (by simp)))
   (HMP.o.ext (((Ext.refl W2 c (S1 .used)).drew).trans he4) H.o.mcol rfl)
   ((((Ext.refl W2 c (S1 .used)).drew).trans he4).col HMP.o.lt H.o.mcol rfl) hs4)
  have HE4:=Hh (((((HE1.o.mono (S':=oC) (jP rfl)).then HE2.o (jP rfl)).drew).then he4 (jP rfl)));clear he4 hs4 c1 q3' c1' q3'';go_wp2;go_ret;exact⟨rfl,c4,HE4.o,bd,bs,bm,st,HG.o⟩
end
end Go.Proofs.YtbmkaekimccdgaaGreatDoor
namespace Stl
def pieces:List Nat→List UInt8→List (Nat×List UInt8)
 | [],_=>[]
 | k::r,s=>(k,dK (s.take 16))::pieces r (s.drop 16)
theorem yO:∀ (l:List Nat) (s:List UInt8),(pieces l s).length=l.length
 | [],_=>rfl
 | k::r,s=>by simp[pieces,yO r]
theorem qE6:∀ (l:List Nat) (s:List UInt8) (i:Nat) (h:i<l.length),(pieces l s)[i]'(by rw[yO];exact h)=(l[i],dK ((s.drop (16*i)).take 16))
 | [],_,i,h=>by simp at h
 | k::r,s,0,_=>by simp[pieces]
 | k::r,s,i+1,h=>by
  have:=qE6 r (s.drop 16) i (by simpa using h);simp only[pieces,List.getElem_cons_succ,this,List.drop_drop];rw[show 16+16*i=16*(i+1) by omega]
theorem qGX (l:List Nat)(s:List UInt8)(i:Nat)(h:i<l.length):(pieces l s).take (i+1)=(pieces l s).take i++[(l[i],dK ((s.drop (16*i)).take 16))]:=by
 rw[zn (by rw[yO];exact h),qE6 l s i h]
theorem qI3 {l:List Nat}{s:List UInt8}{x:Nat×List UInt8}(h:x∈pieces l s):x.1∈l:=by
 induction l generalizing s with
 | nil=>simp[pieces] at h
 | cons k r ih =>
  simp only[pieces,zY] at h
  rcases h with rfl | h
  ·simp
  ·exact List.mem_cons_of_mem _ (ih h)
end Stl
namespace Go.Proofs.YtbmkaekimccdgaaGreatDoor
open Go.RowKit Go.Sort Stl
theorem qAW:∀ (l:List Nat) (D:List (List UInt8)) (s:List UInt8),wL D (pieces l s)=kG D l s
 | [],_,_=>rfl
 | k::r,D,s=>by
  have:=qAW r (D.set k (dK (s.take 16))) (s.drop 16);simpa[wL,pieces,kG] using this
theorem qEW (n:Nat):Lib.repeatL [0] n=List.replicate n (0:UInt8):=by
 induction n with
 | zero=>rfl
 | succ n ih=>rw[List.replicate_succ,← ih];rfl
theorem qGo (n:Nat)(hn:n≤1000000)(w:World) :
  Calls Tryz.prog 25 #[.string ⟨#[0]⟩,.int .i64 n] w fun e w'=>e=.returned (.string ⟨(List.replicate n (0:UInt8)).toArray⟩)∧Below w.heap.size w w':=by
 refine(Tryz.strings_Repeat ⟨#[0]⟩ n w (by omega) (by simp[ByteArray.size];omega)).mono ?_;rintro e w' ⟨rfl,h⟩;exact⟨by rw[← qEW],h⟩
section
variable {w:World}{c:Nat→Col}{b:Nat}
theorem qDN {bd:Nat}{v1 v2:Value}(hb:w.heap[b]?=some (.cells #[.pointer (some ⟨bd,0,none⟩),v1,v2] 85 (0,0)))(hcb:c b=.tab){D:List (List UInt8)}(hd:DiskAt w c bd D)(hD:D.length≤1000000)
  {A:Option Addr} {l:List Nat} (hl:RoInts w c A l) (hll:l.length≤1000000) (hk:∀ k∈l,k<D.length) (cap:Nat) (data:List UInt8) (hda:data.length≤1000000) :
  Calls Tryz.prog 240 #[.pointer (some ⟨b,0,none⟩),.slice A l.length cap,.string ⟨data.toArray⟩] w fun e w'=>e=.returned (.tuple #[])∧∃ c2,Ext w w' c c2 gP∧DiskAt w' c2 bd (kG D l data):=by
 have HB:=Hh hb;have HL:=Hh hl;have HK:=Hh hk;have HD:=Hh hd.waits;have HC:=Hh hcb;clear hb hl hk hd hcb;go_enter Tryz.func240,Tryz.ntmps240;go_wp2_with fail
 go_loopw [2,11] (fun v a wr=>∃ (i:Nat) (cr:Nat→Col),i≤l.length∧a=.int .i64 i∧v=.string ⟨(data.drop (16*i)).toArray⟩∧Hg (Ext w wr c cr oI)∧Hg (DiskW wr cr bd D ((pieces l data).take i))) (fun _ a _=>l.length-(intOf a).toNat)
 case atStart=>exact⟨0,c,zw _,rfl,by simp,Hh (Ext.refl _ _ _),by simpa using HD⟩
 case round =>
  obtain⟨i,cr,hi,rfl,rfl,HE,HW⟩:=hrel;have c0:=ce0 (HE.o.kept HB.o HC.o rfl).1;by_cases hil:i<l.length
  ·have i1:(i:Int)<(l.length:Int):=by omega
   have i2:(0:Int)≤(i:Int):=by omega
   obtain⟨g,off,rfl,hg,hgc,hcells⟩:=(HL.o.ext HE.o rfl) (by intro e;rw[e] at hil;simp at hil);have q0:=hcells i _ (zL hil);have HT:=Hh (qGX l data i hil);have HKI:=Hh (HK.o _ (zO hil));generalize l[i]=k at *;have HR:=Hh (show data.drop (16*(i+1))=(data.drop (16*i)).drop 16 by rw[List.drop_drop];congr 1);have hrl:(data.drop (16*i)).length≤1000000:=by simp;omega
   generalize data.drop (16*i)=r at *;clear hcells;obtain⟨m,hm,hm2⟩:∃ m:Nat,min r.length 16=m∧m≤16:=⟨_,rfl,Nat.min_le_right _ _⟩;have j1:min (r.length:Int) 16=(m:Int):=by omega
   have e1:(ByteArray.mk r.toArray).extract 0 m=⟨(r.take 16).toArray⟩:=by rw[yN,← hm];congr 2;rw[List.take_eq_take_iff];omega
   have e2:(ByteArray.mk r.toArray).extract m r.length=⟨(r.drop 16).toArray⟩:=by
    rw[extract_drop,← hm];congr 2
    rcases Nat.le_total r.length 16 with h | h
    ·rw[Nat.min_eq_left h,zG (zo _),zG h]
    ·rw[Nat.min_eq_right h]
   have j2:m≤r.length:=by omega
   have j3:(0:Int)≤(m:Int):=by omega
   have hl1:(r.take 16).length=m:=by simp;omega
   have HP:=Hh (show dK (r.take 16)=r.take 16++List.replicate (16-m) 0 by unfold dK;rw[hl1]);generalize r.take 16=s1 at *;obtain⟨q,hq⟩:∃ q:Nat,16-m=q:=⟨_,rfl⟩;have j4:(16:Int)-(m:Int)=(q:Int):=by omega
   rw[hq] at HP;have j5:IntKind.i64.wrap (q:Int)=(q:Int):=wrap_i64 (by omega) (by omega);have hq2:q≤1000000:=by omega
   have HZ:=Hh (qGo q hq2);have hzl:(List.replicate q (0:UInt8)).length=q:=by simp
   generalize List.replicate q (0:UInt8)=z at HP HZ hzl;have hpl:(dK s1).length=16:=by rw[HP.o];simp;omega
   have s2:ByteArray.mk s1.toArray++ByteArray.mk z.toArray=ByteArray.mk (dK s1).toArray:=by rw[HP.o];exact ByteArray.mk_append_mk _ _
   have s3:¬ 9223372036854775807<m+q:=by omega
   generalize dK s1=pd at *;have hwl:((pieces l data).take i).length≤1000000:=by simp[yO];omega
   go_upto_region 5 with fail;clear e1 e2;have hbl:b<wr.heap.size:=lt_of_cell c0;have HWd:=Hh (HW.o.ext ((Ext.refl wr cr S0).drew) rfl rfl rfl);clear hm hq j1 j2 hda hrl i1 i2 q0 hg hgc hq2 hm2
   go_region_held3 (fun w'=>w'.cell? ⟨b,0,none⟩=some (.pointer (some ⟨bd,0,none⟩)))
    (first
     | exact c0
     | exact c0'
     | exact c0''
     | go_keep)
    (first
     | (go_at_call 25;refine(HZ.o _).mono ?_;rintro ev w2 ⟨rfl,hb2⟩;have c0':=(hb2.cell (p:=⟨b,0,none⟩) hbl).trans c0)
     | (go_at_call 286;refine(qI0 (HWd.o.ext (Ext.of_below hb2 cr S0) rfl rfl rfl) k HKI.o hwl pd hpl).mono ?_;rintro ev w3 ⟨rfl,c3,he3,hd3⟩;have c0'':w3.cell? ⟨b,0,none⟩=some (.pointer (some ⟨bd,0,none⟩)):=zJ1 w3 b 0 _ _ _ (((HE.o.drew.trans (Ext.of_below hb2 cr oI)).trans he3).kept HB.o HC.o rfl).1)
     | fail)
   have HE3:=Hh ((HE.o.drew.trans (Ext.of_below hb2 cr oI)).trans he3);have HD3:=Hh hd3;have hil2:i<l.length:=hil;clear hb2 he3 hd3 c0 c0' c0'';go_wp2;go_roundw
   case rel=>exact⟨i+1,c3,hil2,by go_num,by rw[HR.o],HE3,by rw[HT.o];exact HD3⟩
   case measure=>simp[intOf];omega
  ·have i1:¬ (i:Int)<(l.length:Int):=by omega
   have HT:=Hh (show (pieces l data).take i=pieces l data from zm (by rw[yO];omega));rw[HT.o] at HW;have hpl:(pieces l data).length≤1000000:=by rw[yO];exact hll
   go_wp2_with (go_at_call 287;refine(qEI HW.o (fun x hx=>HK.o _ (qI3 hx)) hD hpl).mono ?_;rintro ev w2 ⟨rfl,he2,hd2⟩);go_end0;refine⟨rfl,cr,(HE.o.mono (S':=gP) (fun x h=>by unfold gP at h;unfold oI;simp at h ⊢;exact⟨h.1.1,h.2⟩)).trans he2,?_⟩;rw[← qAW];exact hd2
end
end Go.Proofs.YtbmkaekimccdgaaGreatDoor
