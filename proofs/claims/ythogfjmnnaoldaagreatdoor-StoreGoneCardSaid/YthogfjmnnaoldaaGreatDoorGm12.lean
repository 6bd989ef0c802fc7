/- Texts of this claim, merged: ShelfB, Kept, PacksAt, StepPure. -/
import Derived.Ground.SlmcProg
import Derived.Shelf.SlGeneric
import Derived.Shelf.SlIterI.Nil
import Derived.Shelf.SlMaps.Clone
import Derived.Shelf.SlicesQ.IndexFunc
import Derived.Test.YthogfjmnnaoldaaGreatDoorGm11
set_option maxHeartbeats 16000000
set_option maxRecDepth 1000000
set_option linter.all false
namespace Go.Proofs
open Go.Shelf
def Tryz.cloneS_ren:Go.Shelf.Ren:=⟨fun | 41=>31 | n=>n,fun | 22=>22 | 23=>9 | 4=>4 | n=>n,fun | n=>n⟩
theorem Tryz.cloneS:Go.Proofs.SlLaysE0.n41 Tryz.prog Tryz.cloneS_ren:={
 mixed:=by kernel_rfl
 f41:=⟨Tryz.f31.name,by decide,Tryz.func31.trans (congrArg some (by kernel_rfl))⟩
 t4:=Tryz.underlying4
 a4:=Tryz.isAgg4
 z4:=Tryz.sizeOf4
 v4:=Tryz.zeroValue4
 t22:=Tryz.underlying22
 a22:=Tryz.isAgg22
 z22:=Tryz.sizeOf22
 v22:=Tryz.zeroValue22 }
def Tryz.cloneB_ren:Go.Shelf.Ren:=⟨fun | 41=>157 | n=>n,fun | 22=>132 | 23=>4 | 4=>4 | n=>n,fun | n=>n⟩
theorem Tryz.cloneB:Go.Proofs.SlLaysE0.n41 Tryz.prog Tryz.cloneB_ren:={
 mixed:=by kernel_rfl
 f41:=⟨Tryz.f157.name,by decide,Tryz.func157.trans (congrArg some (by kernel_rfl))⟩
 t4:=Tryz.underlying4
 a4:=Tryz.isAgg4
 z4:=Tryz.sizeOf4
 v4:=Tryz.zeroValue4
 t22:=Tryz.underlying132
 a22:=Tryz.isAgg132
 z22:=Tryz.sizeOf132
 v22:=Tryz.zeroValue132 }
def Tryz.cloneW_ren:Go.Shelf.Ren:=⟨fun | 41=>156 | n=>n,fun | 22=>85 | 23=>217 | 4=>4 | n=>n,fun | n=>n⟩
theorem Tryz.cloneW:Go.Proofs.SlLaysE0.n41 Tryz.prog Tryz.cloneW_ren:={
 mixed:=by kernel_rfl
 f41:=⟨Tryz.f156.name,by decide,Tryz.func156.trans (congrArg some (by kernel_rfl))⟩
 t4:=Tryz.underlying4
 a4:=Tryz.isAgg4
 z4:=Tryz.sizeOf4
 v4:=Tryz.zeroValue4
 t22:=Tryz.underlying85
 a22:=Tryz.isAgg85
 z22:=Tryz.sizeOf85
 v22:=Tryz.zeroValue85 }
def Tryz.cloneK_ren:Go.Shelf.Ren:=⟨fun | 41=>39 | n=>n,fun | 22=>62 | 23=>104 | 4=>4 | n=>n,fun | n=>n⟩
theorem Tryz.cloneK:Go.Proofs.SlLaysE0.n41 Tryz.prog Tryz.cloneK_ren:={
 mixed:=by kernel_rfl
 f41:=⟨Tryz.f39.name,by decide,Tryz.func39.trans (congrArg some (by kernel_rfl))⟩
 t4:=Tryz.underlying4
 a4:=Tryz.isAgg4
 z4:=Tryz.sizeOf4
 v4:=Tryz.zeroValue4
 t22:=Tryz.underlying62
 a22:=Tryz.isAgg62
 z22:=Tryz.sizeOf62
 v22:=Tryz.zeroValue62 }
def Tryz.cloneKid_ren:Go.Shelf.Ren:=⟨fun | 41=>153 | n=>n,fun | 22=>43 | 23=>81 | 4=>4 | n=>n,fun | n=>n⟩
theorem Tryz.cloneKid:Go.Proofs.SlLaysE0.n41 Tryz.prog Tryz.cloneKid_ren:={
 mixed:=by kernel_rfl
 f41:=⟨Tryz.f153.name,by decide,Tryz.func153.trans (congrArg some (by kernel_rfl))⟩
 t4:=Tryz.underlying4
 a4:=Tryz.isAgg4
 z4:=Tryz.sizeOf4
 v4:=Tryz.zeroValue4
 t22:=Tryz.underlying43
 a22:=Tryz.isAgg43
 z22:=Tryz.sizeOf43
 v22:=Tryz.zeroValue43 }
def Tryz.cfInt_ren:Go.Shelf.Ren:=⟨fun | 8=>208 | 6=>257 | n=>n,fun | 22=>158 | 23=>3 | 25=>215 | 4=>4 | 3=>3 | 0=>0 | n=>n,fun | n=>n⟩
theorem Tryz.cfInt:Go.Proofs.SlLaysH.n8 Tryz.prog Tryz.cfInt_ren:={
 mixed:=by kernel_rfl
 f6:=⟨Tryz.f257.name,by decide,Tryz.func257.trans (congrArg some (by kernel_rfl))⟩
 f8:=⟨Tryz.f208.name,by decide,Tryz.func208.trans (congrArg some (by kernel_rfl))⟩
 t0:=Tryz.underlying0
 a0:=Tryz.isAgg0
 z0:=Tryz.sizeOf0
 v0:=Tryz.zeroValue0
 t3:=Tryz.underlying3
 a3:=Tryz.isAgg3
 z3:=Tryz.sizeOf3
 v3:=Tryz.zeroValue3
 t4:=Tryz.underlying4
 a4:=Tryz.isAgg4
 z4:=Tryz.sizeOf4
 v4:=Tryz.zeroValue4
 t22:=Tryz.underlying158
 a22:=Tryz.isAgg158
 z22:=Tryz.sizeOf158
 v22:=Tryz.zeroValue158
 a23:=Tryz.isAgg3
 z23:=Tryz.sizeOf3
 t25:=Tryz.underlying215
 a25:=Tryz.isAgg215
 z25:=Tryz.sizeOf215
 v25:=Tryz.zeroValue215 }
def Tryz.cfStr_ren:Go.Shelf.Ren:=⟨fun | 8=>202 | 6=>254 | n=>n,fun | 22=>22 | 23=>9 | 25=>120 | 4=>4 | 3=>3 | 0=>0 | n=>n,fun | n=>n⟩
theorem Tryz.cfStr:Go.Proofs.SlLaysH.n8 Tryz.prog Tryz.cfStr_ren:={
 mixed:=by kernel_rfl
 f6:=⟨Tryz.f254.name,by decide,Tryz.func254.trans (congrArg some (by kernel_rfl))⟩
 f8:=⟨Tryz.f202.name,by decide,Tryz.func202.trans (congrArg some (by kernel_rfl))⟩
 t0:=Tryz.underlying0
 a0:=Tryz.isAgg0
 z0:=Tryz.sizeOf0
 v0:=Tryz.zeroValue0
 t3:=Tryz.underlying3
 a3:=Tryz.isAgg3
 z3:=Tryz.sizeOf3
 v3:=Tryz.zeroValue3
 t4:=Tryz.underlying4
 a4:=Tryz.isAgg4
 z4:=Tryz.sizeOf4
 v4:=Tryz.zeroValue4
 t22:=Tryz.underlying22
 a22:=Tryz.isAgg22
 z22:=Tryz.sizeOf22
 v22:=Tryz.zeroValue22
 a23:=Tryz.isAgg9
 z23:=Tryz.sizeOf9
 t25:=Tryz.underlying120
 a25:=Tryz.isAgg120
 z25:=Tryz.sizeOf120
 v25:=Tryz.zeroValue120 }
def Tryz.keysStat_ren:Go.Shelf.Ren:=⟨fun | 7=>199 | 10=>249 | n=>n,fun | 23=>92 | 26=>3 | 3=>189 | 28=>292 | 0=>0 | 27=>291 | 33=>215 | 4=>4 | n=>n,fun | n=>n⟩
theorem Tryz.keysStat:Go.Proofs.SlLaysZI.n7 Tryz.prog Tryz.keysStat_ren:={
 mixed:=by kernel_rfl
 f7:=⟨Tryz.f199.name,by decide,Tryz.func199.trans (congrArg some (by kernel_rfl))⟩
 f10:=⟨Tryz.f249.name,by decide,Tryz.func249.trans (congrArg some (by kernel_rfl))⟩
 t0:=Tryz.underlying0
 a0:=Tryz.isAgg0
 z0:=Tryz.sizeOf0
 v0:=Tryz.zeroValue0
 t4:=Tryz.underlying4
 a4:=Tryz.isAgg4
 z4:=Tryz.sizeOf4
 v4:=Tryz.zeroValue4
 t23:=Tryz.underlying92
 a23:=Tryz.isAgg92
 z23:=Tryz.sizeOf92
 v23:=Tryz.zeroValue92
 t26:=Tryz.underlying3
 a26:=Tryz.isAgg3
 z26:=Tryz.sizeOf3
 v26:=Tryz.zeroValue3
 t27:=Tryz.underlying291
 a27:=Tryz.isAgg291
 z27:=Tryz.sizeOf291
 v27:=Tryz.zeroValue291
 t28:=Tryz.underlying292
 a28:=Tryz.isAgg292
 z28:=Tryz.sizeOf292
 v28:=Tryz.zeroValue292
 t33:=Tryz.underlying215
 a33:=Tryz.isAgg215
 z33:=Tryz.sizeOf215
 v33:=Tryz.zeroValue215 }
def Tryz.keysEnt_ren:Go.Shelf.Ren:=⟨fun | 7=>215 | 10=>263 | n=>n,fun | 23=>95 | 26=>3 | 3=>138 | 28=>292 | 0=>0 | 27=>291 | 33=>215 | 4=>4 | n=>n,fun | n=>n⟩
theorem Tryz.keysEnt:Go.Proofs.SlLaysZI.n7 Tryz.prog Tryz.keysEnt_ren:={
 mixed:=by kernel_rfl
 f7:=⟨Tryz.f215.name,by decide,Tryz.func215.trans (congrArg some (by kernel_rfl))⟩
 f10:=⟨Tryz.f263.name,by decide,Tryz.func263.trans (congrArg some (by kernel_rfl))⟩
 t0:=Tryz.underlying0
 a0:=Tryz.isAgg0
 z0:=Tryz.sizeOf0
 v0:=Tryz.zeroValue0
 t4:=Tryz.underlying4
 a4:=Tryz.isAgg4
 z4:=Tryz.sizeOf4
 v4:=Tryz.zeroValue4
 t23:=Tryz.underlying95
 a23:=Tryz.isAgg95
 z23:=Tryz.sizeOf95
 v23:=Tryz.zeroValue95
 t26:=Tryz.underlying3
 a26:=Tryz.isAgg3
 z26:=Tryz.sizeOf3
 v26:=Tryz.zeroValue3
 t27:=Tryz.underlying291
 a27:=Tryz.isAgg291
 z27:=Tryz.sizeOf291
 v27:=Tryz.zeroValue291
 t28:=Tryz.underlying292
 a28:=Tryz.isAgg292
 z28:=Tryz.sizeOf292
 v28:=Tryz.zeroValue292
 t33:=Tryz.underlying215
 a33:=Tryz.isAgg215
 z33:=Tryz.sizeOf215
 v33:=Tryz.zeroValue215 }
def Tryz.sortedI_ren:Go.Shelf.Ren:=⟨fun | 6=>198 | 8=>247 | 9=>248 | 11=>281 | 13=>185 | 12=>282 | 23=>236 | 24=>237 | 14=>296 | 15=>297 | 16=>298 | 17=>299 | 18=>300 | 19=>301 | 20=>302 | 21=>303 | 22=>304 | 25=>309 | 26=>273 | 27=>274 | 28=>310 | 29=>311 | 30=>312 | 31=>314 | n=>n,fun | 26=>3 | 28=>292 | 24=>158 | 0=>0 | 3=>3 | 37=>121 | 48=>181 | 50=>184 | 4=>4 | 40=>316 | 39=>315 | 45=>148 | 5=>5 | 9=>9 | 51=>346 | 55=>350 | 57=>367 | 58=>368 | 33=>215 | n=>n,fun | n=>n⟩
theorem Tryz.sortedI:Go.Proofs.SlLaysZI.n6 Tryz.prog Tryz.sortedI_ren:={
 mixed:=by kernel_rfl
 f6:=⟨Tryz.f198.name,by decide,Tryz.func198.trans (congrArg some (by kernel_rfl))⟩
 f8:=⟨Tryz.f247.name,by decide,Tryz.func247.trans (congrArg some (by kernel_rfl))⟩
 f11:=⟨Tryz.f281.name,by decide,Tryz.func281.trans (congrArg some (by kernel_rfl))⟩
 t0:=Tryz.underlying0
 a0:=Tryz.isAgg0
 z0:=Tryz.sizeOf0
 v0:=Tryz.zeroValue0
 t24:=Tryz.underlying158
 a24:=Tryz.isAgg158
 z24:=Tryz.sizeOf158
 v24:=Tryz.zeroValue158
 t26:=Tryz.underlying3
 a26:=Tryz.isAgg3
 z26:=Tryz.sizeOf3
 v26:=Tryz.zeroValue3
 t28:=Tryz.underlying292
 a28:=Tryz.isAgg292
 z28:=Tryz.sizeOf292
 v28:=Tryz.zeroValue292
 i26:=by kernel_rfl }
def Tryz.sortI_ren:Go.Shelf.Ren:=⟨fun | 5=>248 | 8=>185 | 7=>282 | 19=>236 | 20=>237 | 10=>296 | 11=>297 | 12=>298 | 13=>299 | 14=>300 | 15=>301 | 16=>302 | 17=>303 | 18=>304 | 30=>309 | 31=>273 | 32=>274 | 33=>310 | 34=>311 | 35=>312 | 40=>314 | n=>n,fun | 23=>158 | 25=>3 | 3=>3 | 32=>121 | 22=>158 | 0=>0 | 44=>181 | 46=>184 | 4=>4 | 36=>316 | 35=>315 | 41=>148 | 5=>5 | 9=>9 | 53=>346 | 57=>350 | 63=>367 | 64=>368 | n=>n,fun | n=>n⟩
theorem Tryz.sortI:Go.Proofs.SlLaysM.n5 Tryz.prog Tryz.sortI_ren:={
 mixed:=by kernel_rfl
 f5:=⟨Tryz.f248.name,by decide,Tryz.func248.trans (congrArg some (by kernel_rfl))⟩
 f7:=⟨Tryz.f282.name,by decide,Tryz.func282.trans (congrArg some (by kernel_rfl))⟩
 f8:=Tryz.func185.trans (congrArg some (by kernel_rfl))
 f10:=⟨Tryz.f296.name,by decide,Tryz.func296.trans (congrArg some (by kernel_rfl))⟩
 f11:=⟨Tryz.f297.name,by decide,Tryz.func297.trans (congrArg some (by kernel_rfl))⟩
 f12:=⟨Tryz.f298.name,by decide,Tryz.func298.trans (congrArg some (by kernel_rfl))⟩
 f13:=⟨Tryz.f299.name,by decide,Tryz.func299.trans (congrArg some (by kernel_rfl))⟩
 f14:=⟨Tryz.f300.name,by decide,Tryz.func300.trans (congrArg some (by kernel_rfl))⟩
 f15:=⟨Tryz.f301.name,by decide,Tryz.func301.trans (congrArg some (by kernel_rfl))⟩
 f16:=⟨Tryz.f302.name,by decide,Tryz.func302.trans (congrArg some (by kernel_rfl))⟩
 f17:=⟨Tryz.f303.name,by decide,Tryz.func303.trans (congrArg some (by kernel_rfl))⟩
 f18:=⟨Tryz.f304.name,by decide,Tryz.func304.trans (congrArg some (by kernel_rfl))⟩
 f19:=Tryz.func236.trans (congrArg some (by kernel_rfl))
 f20:=Tryz.func237.trans (congrArg some (by kernel_rfl))
 f30:=⟨Tryz.f309.name,by decide,Tryz.func309.trans (congrArg some (by kernel_rfl))⟩
 f31:=Tryz.func273.trans (congrArg some (by kernel_rfl))
 f32:=Tryz.func274.trans (congrArg some (by kernel_rfl))
 f33:=⟨Tryz.f310.name,by decide,Tryz.func310.trans (congrArg some (by kernel_rfl))⟩
 f34:=⟨Tryz.f311.name,by decide,Tryz.func311.trans (congrArg some (by kernel_rfl))⟩
 f35:=⟨Tryz.f312.name,by decide,Tryz.func312.trans (congrArg some (by kernel_rfl))⟩
 f40:=⟨Tryz.f314.name,by decide,Tryz.func314.trans (congrArg some (by kernel_rfl))⟩
 t0:=Tryz.underlying0
 a0:=Tryz.isAgg0
 z0:=Tryz.sizeOf0
 v0:=Tryz.zeroValue0
 t3:=Tryz.underlying3
 a3:=Tryz.isAgg3
 z3:=Tryz.sizeOf3
 v3:=Tryz.zeroValue3
 t4:=Tryz.underlying4
 a4:=Tryz.isAgg4
 z4:=Tryz.sizeOf4
 v4:=Tryz.zeroValue4
 t5:=Tryz.underlying5
 a5:=Tryz.isAgg5
 z5:=Tryz.sizeOf5
 v5:=Tryz.zeroValue5
 t9:=Tryz.underlying9
 a9:=Tryz.isAgg9
 z9:=Tryz.sizeOf9
 v9:=Tryz.zeroValue9
 t22:=Tryz.underlying158
 a22:=Tryz.isAgg158
 z22:=Tryz.sizeOf158
 v22:=Tryz.zeroValue158
 t23:=Tryz.underlying158
 a23:=Tryz.isAgg158
 z23:=Tryz.sizeOf158
 v23:=Tryz.zeroValue158
 t25:=Tryz.underlying3
 a25:=Tryz.isAgg3
 z25:=Tryz.sizeOf3
 v25:=Tryz.zeroValue3
 t32:=Tryz.underlying121
 a32:=Tryz.isAgg121
 z32:=Tryz.sizeOf121
 v32:=Tryz.zeroValue121
 t35:=Tryz.underlying315
 a35:=Tryz.isAgg315
 z35:=Tryz.sizeOf315
 v35:=Tryz.zeroValue315
 t36:=Tryz.underlying316
 a36:=Tryz.isAgg316
 z36:=Tryz.sizeOf316
 v36:=Tryz.zeroValue316
 t41:=Tryz.underlying148
 a41:=Tryz.isAgg148
 z41:=Tryz.sizeOf148
 v41:=Tryz.zeroValue148
 t44:=Tryz.underlying181
 a44:=Tryz.isAgg181
 z44:=Tryz.sizeOf181
 v44:=Tryz.zeroValue181
 t46:=Tryz.underlying184
 a46:=Tryz.isAgg184
 z46:=Tryz.sizeOf184
 v46:=Tryz.zeroValue184
 t53:=Tryz.underlying346
 a53:=Tryz.isAgg346
 z53:=Tryz.sizeOf346
 v53:=Tryz.zeroValue346
 t57:=Tryz.underlying350
 a57:=Tryz.isAgg350
 z57:=Tryz.sizeOf350
 v57:=Tryz.zeroValue350
 t63:=Tryz.underlying367
 a63:=Tryz.isAgg367
 z63:=Tryz.sizeOf367
 v63:=Tryz.zeroValue367
 t64:=Tryz.underlying368
 a64:=Tryz.isAgg368
 z64:=Tryz.sizeOf368
 v64:=Tryz.zeroValue368 }
def Tryz.mclone_ren:Go.Shelf.Ren:=⟨fun | 5=>65 | 7=>109 | n=>n,fun | 23=>136 | 25=>9 | 3=>3 | 4=>4 | 20=>20 | n=>n,fun | n=>n⟩
theorem Tryz.mclone:Go.Proofs.SlLaysW.n5 Tryz.prog Tryz.mclone_ren:={
 mixed:=by kernel_rfl
 f5:=⟨Tryz.f65.name,by decide,Tryz.func65.trans (congrArg some (by kernel_rfl))⟩
 f7:=Tryz.func109.trans (congrArg some (by kernel_rfl))
 t4:=Tryz.underlying4
 a4:=Tryz.isAgg4
 z4:=Tryz.sizeOf4
 v4:=Tryz.zeroValue4
 t20:=Tryz.underlying20
 a20:=Tryz.isAgg20
 z20:=Tryz.sizeOf20
 v20:=Tryz.zeroValue20
 t23:=Tryz.underlying136
 a23:=Tryz.isAgg136
 z23:=Tryz.sizeOf136
 v23:=Tryz.zeroValue136 }
end Go.Proofs
namespace Go.Proofs.YthogfjmnnaoldaaGreatDoor
open Go.RowKit Go.Sort Go.Shelf Stl
structure PkX where
 p:Pk
 a:Option Addr
 cap:Nat
instance:Inhabited PkX:=⟨⟨⟨[],[],0⟩,none,0⟩⟩
def qA4 (x:PkX):List Value:=[.string ⟨x.p.name.toArray⟩,.slice x.a x.p.refs.length x.cap,.int .i64 x.p.k]
theorem qBq:∀ zs:List PkX,(zs.flatMap qA4).length=zs.length*3
 | []=>rfl
 | x::r=>by
  have:=qBq r
  simp only [List.flatMap_cons,zQ,zS,this]
  show 3+_=_
  omega
theorem qFh:∀ (zs:List PkX) (j:Nat) (h:j<zs.length) (i:Nat),i<3→(zs.flatMap qA4)[j*3+i]?=(qA4 zs[j])[i]?
 | [],_,h,_,_=>by simp at h
 | x::r,0,_,i,hi=>by
  rw [List.flatMap_cons,List.getElem?_append_left (show 0*3+i<(qA4 x).length by show _<3;omega)]
  simp
 | x::r,j+1,h,i,hi=>by
  have:=qFh r j (by simpa using h) i hi
  rw [List.flatMap_cons,List.getElem?_append_right (show (qA4 x).length≤(j+1)*3+i by show 3≤_;omega)]
  rw [show (j+1)*3+i-(qA4 x).length=j*3+i by show (j+1)*3+i-3=_;omega,this]
  simp
section
variable {w w2:World} {c c2:Nat→Col} {S:Col→Bool}
theorem PksCells.opened:∀ {l:List Pk} {vs:List Value},PksCells w c l vs→∃ zs:List PkX,zs.map (·.p)=l∧vs=zs.flatMap qA4∧∀ x∈zs,x.p.refs.length≤x.cap∧RoStrs w c x.a x.p.refs
 | [],vs,h=>⟨[],rfl,h,by simp⟩
 | p::r,vs,h=>by
  obtain ⟨A,cap,rest,h1,h2,h3,h4⟩:=h
  obtain ⟨zs,e1,e2,e3⟩:=PksCells.opened h4
  refine ⟨⟨p,A,cap⟩::zs,by simp [e1],by rw [h1,e2];rfl,?_⟩
  intro x hx
  rcases za.1 hx with rfl | hx
  ·exact ⟨h2,h3⟩
  ·exact e3 x hx
theorem PksCells.shut:∀ {zs:List PkX},(∀ x∈zs,x.p.refs.length≤x.cap∧RoStrs w c x.a x.p.refs)→PksCells w c (zs.map (·.p)) (zs.flatMap qA4)
 | [],_=>rfl
 | x::r,h=>⟨x.a,x.cap,r.flatMap qA4,rfl,(h x (by simp)).1,(h x (by simp)).2,PksCells.shut fun y hy=>h y (by simp [hy])⟩
theorem StoIn.kept {b:Nat} {s:Sto} {bd:Nat} {vl vr:Value} {tp:Nat} {cs:List Value} (h:StoIn w c b s bd vl vr tp cs):∃ (A:Option Addr) (cap:Nat) (zs:List PkX),vl=.slice A zs.length cap∧zs.map (·.p)=s.l∧zs.length=s.l.length∧cs=zs.flatMap qA4∧(∀ x∈zs,x.p.refs.length≤x.cap∧RoStrs w c x.a x.p.refs):=by
 obtain ⟨zs,e1,e2,e3⟩:=h.pcells.opened
 obtain ⟨A,cap,e4⟩:=h.packs.slice
 have e5:zs.length=s.l.length:=by rw [← e1,zV]
 exact ⟨A,cap,zs,by rw [e4,e5],e1,e5,e2,e3⟩
end
structure PX where
 p:Pk
 a:Option Addr
 cap:Nat
 t0:ByteArray
 t1:ByteArray
 t2:Bool
 t3:Option Addr
 t4:Nat
 t5:Nat
instance:Inhabited PX:=⟨⟨⟨[],[],0⟩,none,0,⟨#[]⟩,⟨#[]⟩,false,none,0,0⟩⟩
def qBK (x:PX):List Value:=[.string ⟨x.p.name.toArray⟩,.slice x.a x.p.refs.length x.cap,.string x.t0,.string x.t1,.bool x.t2,.slice x.t3 x.t4 x.t5]
theorem qCb:∀ zs:List PX,(zs.flatMap qBK).length=zs.length*6
 | []=>rfl
 | x::r=>by
  have:=qCb r
  simp only [List.flatMap_cons,zQ,zS,this]
  show 6+_=_
  omega
theorem qBm:∀ (zs:List PX) (j:Nat) (h:j<zs.length) (i:Nat),i<6→(zs.flatMap qBK)[j*6+i]?=(qBK zs[j])[i]?
 | [],_,h,_,_=>by simp at h
 | x::r,0,_,i,hi=>by
  rw [List.flatMap_cons,List.getElem?_append_left (show 0*6+i<(qBK x).length by show _<6;omega)]
  simp
 | x::r,j+1,h,i,hi=>by
  have:=qBm r j (by simpa using h) i hi
  rw [List.flatMap_cons,List.getElem?_append_right (show (qBK x).length≤(j+1)*6+i by show 6≤_;omega)]
  rw [show (j+1)*6+i-(qBK x).length=j*6+i by show (j+1)*6+i-6=_;omega,this]
  simp
structure PacksAt (w:World) (A:Option Addr) (zs:List PX):Prop where
 row:zs≠[]→∃ b off,A=some ⟨b,off,none⟩∧b<w.heap.size∧∀ (j:Nat) u,(zs.flatMap qBK)[j]?=some u→w.cell? ⟨b,off+j,none⟩=some u
 refs:∀ x∈zs,x.p.refs.length≤x.cap∧Strs w (.slice x.a x.p.refs.length x.cap) x.p.refs
section
variable {w w2:World} {A:Option Addr} {zs:List PX}
theorem PacksAt.later (h:PacksAt w A zs) (hb:Below w.heap.size w w2):PacksAt w2 A zs :=
 ⟨fun hn=>by
  obtain ⟨b,off,h1,h2,h3⟩:=h.row hn
  exact ⟨b,off,h1,zv h2 hb.size,fun j u hu=>(hb.cell (p:=⟨b,off+j,none⟩) h2).trans (h3 j u hu)⟩,
  fun x hx=>⟨(h.refs x hx).1,(h.refs x hx).2.later hb⟩⟩
theorem PacksAt.at (h:PacksAt w A zs) {j:Nat} (hj:j<zs.length):∃ b off,A=some ⟨b,off,none⟩∧b<w.heap.size ∧
  w.cell? ⟨b,off+j*6,none⟩=some (.string ⟨zs[j].p.name.toArray⟩)∧w.cell? ⟨b,off+j*6+1,none⟩=some (.slice zs[j].a zs[j].p.refs.length zs[j].cap)∧w.cell? ⟨b,off+j*6+2,none⟩=some (.string zs[j].t0)∧w.cell? ⟨b,off+j*6+3,none⟩=some (.string zs[j].t1)∧w.cell? ⟨b,off+j*6+4,none⟩=some (.bool zs[j].t2)∧w.cell? ⟨b,off+j*6+5,none⟩=some (.slice zs[j].t3 zs[j].t4 zs[j].t5):=by
 obtain ⟨b,off,h1,h2,h3⟩:=h.row (fun e=>by rw [e] at hj;simp at hj)
 refine ⟨b,off,h1,h2,?_,?_,?_,?_,?_,?_⟩
 ·have:=h3 (j*6+0) _ (qBm zs j hj 0 (by omega));simpa using this
 ·have:=h3 (j*6+1) _ (qBm zs j hj 1 (by omega));rw [Nat.add_assoc];exact this
 ·have:=h3 (j*6+2) _ (qBm zs j hj 2 (by omega));rw [Nat.add_assoc];exact this
 ·have:=h3 (j*6+3) _ (qBm zs j hj 3 (by omega));rw [Nat.add_assoc];exact this
 ·have:=h3 (j*6+4) _ (qBm zs j hj 4 (by omega));rw [Nat.add_assoc];exact this
 ·have:=h3 (j*6+5) _ (qBm zs j hj 5 (by omega));rw [Nat.add_assoc];exact this
end
end Go.Proofs.YthogfjmnnaoldaaGreatDoor
namespace Stl
theorem qDP {t:Tab} {n m:Nat} (h:t.lesser n=some m):m<n∧∃ s,t.read n=.ok s∧t.read m=.ok s∧(t.at_ m).map (·.exec)=(t.at_ n).map (·.exec):=by
 unfold Tab.lesser at h
 cases hr:t.read n with
 | error e=>rw [hr] at h;cases h
 | ok s =>
  rw [hr] at h
  simp only at h
  have h1:=List.find?_some h
  have h2:=zh h
  rw [List.mem_range] at h2
  refine ⟨h2,s,rfl,?_⟩
  cases hm:t.read m with
  | error e=>rw [hm] at h1;simp at h1
  | ok r =>
   rw [hm] at h1
   simp only [zD,beq_iff_eq] at h1
   exact ⟨by rw [h1.1],h1.2⟩
theorem qFI:∀ {t:Tab} {l:List Ent} {k:Nat} {s:Bytes} {was n:Nat},stepOf t l=some (k,s,was,n)→∃ e∈l,e.k=k∧(s,was)∈e.f∧t.lesser was=some n
 | t,[],_,_,_,_,h=>by cases h
 | t,e::r,k,s,was,n,h=>by
  unfold stepOf at h
  split at h
  ·rename_i x hx
   injection h with h
   subst h
   obtain ⟨p,hp,hq⟩:=List.exists_of_findSome?_eq_some hx
   cases hl:t.lesser p.2 with
   | none=>rw [hl] at hq;cases hq
   | some m =>
    rw [hl] at hq
    injection hq with hq
    injection hq with e1 hq
    injection hq with e2 hq
    injection hq with e3 e4
    exact ⟨e,by simp,e1,by rw [← e2,← e3];exact hp,by rw [← e3,hl,e4]⟩
  ·obtain ⟨a,ha,hb⟩:=qFI h
   exact ⟨a,by simp [ha],hb⟩
theorem qJW (f:List (Bytes×Nat)) (s:Bytes) (n:Nat):(qAo f s n).map (·.1)=f.map (·.1):=by
 unfold qAo
 rw [zY]
 apply List.map_congr_left
 intro p _
 simp only [Function.comp]
 split<;>rfl
theorem qBx:∀ (f:List (Bytes×Nat)) (s:Bytes) (n:Nat) (p:Bytes),qAG (qAo f s n) p=if p=s then (qAG f p).map (fun _=>n) else qAG f p
 | [],s,n,p=>by simp [qAo,qAG]
 | (a,m)::r,s,n,p=>by
  have ih:=qBx r s n p
  have e:qAo ((a,m)::r) s n=(if a=s then (a,n) else (a,m))::qAo r s n:=rfl
  rw [e]
  by_cases h1:a=s
  ·rw [zN1 h1,qBn,qBn,ih]
   by_cases h2:p=s
   ·rw [zN1 h2,zN1 h2,zN1 (h1.trans h2.symm),zN1 (h1.trans h2.symm)];rfl
   ·rw [zM1 h2,zM1 (fun e=>h2 (e.symm.trans h1)),zM1 h2,zM1 (fun e=>h2 (e.symm.trans h1))]
  ·rw [zM1 h1,qBn,qBn,ih]
   by_cases h2:a=p
   ·rw [zN1 h2,zN1 h2,zM1 (fun e=>h1 (h2.trans e))]
   ·rw [zM1 h2,zM1 h2]
theorem qC7:∀ (f:List (Bytes×Nat)) (s:Bytes) (n:Nat),s∉f.map (·.1)→qAo f s n=f
 | [],_,_,_=>rfl
 | (a,m)::r,s,n,h=>by
  simp only [zX,za,not_or] at h
  have e:qAo ((a,m)::r) s n=(if a=s then (a,n) else (a,m))::qAo r s n:=rfl
  rw [e,zM1 (Ne.symm h.1),qC7 r s n h.2]
theorem qEu:∀ (f:List (Bytes×Nat)) (s:Bytes) (was n m:Nat),(f.map (·.1)).Nodup→(s,was)∈f →
  ((qAo f s n).map (·.2)).count m+(if m=was then 1 else 0)=(f.map (·.2)).count m+(if m=n then 1 else 0)
 | [],_,_,_,_,_,h=>by cases h
 | (a,b)::r,s,was,n,m,hn,h=>by
  simp only [zX,List.nodup_cons] at hn
  have e:qAo ((a,b)::r) s n=(if a=s then (a,n) else (a,b))::qAo r s n:=rfl
  rw [e]
  rcases za.1 h with e2 | h
  ·injection e2 with e3 e4
   subst e3;subst e4
   rw [zN1 rfl,qC7 r s n hn.1]
   simp only [zX,List.count_cons,beq_iff_eq]
   have q1:(if m=was then 1 else 0)=(if was=m then 1 else 0):=by simp only [eq_comm]
   have q2:(if m=n then 1 else 0)=(if n=m then 1 else 0):=by simp only [eq_comm]
   omega
  ·have hne:a≠s:=fun e=>hn.1 (by rw [e];exact zg (f:=(·.1)) h)
   rw [zM1 hne]
   have ih:=qEu r s was n m hn.2 h
   simp only [zX,List.count_cons]
   omega
theorem qFA:∀ (f:List (Bytes×Nat)) (s:Bytes) (was n:Nat),(f.map (·.1)).Nodup→(s,was)∈f→((qAo f s n).map (·.2)).sum+was=(f.map (·.2)).sum+n
 | [],_,_,_,_,h=>by cases h
 | (a,b)::r,s,was,n,hn,h=>by
  simp only [zX,List.nodup_cons] at hn
  have e:qAo ((a,b)::r) s n=(if a=s then (a,n) else (a,b))::qAo r s n:=rfl
  rw [e]
  rcases za.1 h with e2 | h
  ·injection e2 with e3 e4
   subst e3;subst e4
   rw [zN1 rfl,qC7 r s n hn.1]
   simp only [zX,List.sum_cons]
   omega
  ·have hne:a≠s:=fun e=>hn.1 (by rw [e];exact zg (f:=(·.1)) h)
   rw [zM1 hne]
   have ih:=qFA r s was n hn.2 h
   simp only [zX,List.sum_cons]
   omega
def qAK (l:List Ent) (k:Nat) (s:Bytes) (n:Nat):List Ent:=l.map fun e=>if e.k=k then { e with f:=qAo e.f s n } else e
theorem qFN (l:List Ent) (k:Nat) (s:Bytes) (n:Nat) (h:∀ e∈l,e.k≠k):qAK l k s n=l:=by
 unfold qAK
 conv=>rhs;rw [← List.map_id l]
 apply List.map_congr_left
 intro e he
 rw [zM1 (h e he)]
 rfl
theorem qJu (l:List Ent) (k:Nat) (s:Bytes) (n:Nat):(qAK l k s n).map (·.k)=l.map (·.k):=by
 unfold qAK
 rw [zY]
 apply List.map_congr_left
 intro e _
 simp only [Function.comp]
 split<;>rfl
theorem qE3:∀ (l:List Ent) (s:Bytes) (was n m:Nat) (e:Ent),l.Pairwise (fun a b=>a.k<b.k)→e∈l→(e.f.map (·.1)).Nodup→(s,was)∈e.f →
  (nums (qAK l e.k s n)).count m+(if m=was then 1 else 0)=(nums l).count m+(if m=n then 1 else 0)
 | [],_,_,_,_,_,_,h,_,_=>by cases h
 | x::r,s,was,n,m,e,hk,he,hn,hf=>by
  obtain ⟨p1,p2⟩:=zk.1 hk
  have e0:qAK (x::r) e.k s n=(if x.k=e.k then { x with f:=qAo x.f s n } else x)::qAK r e.k s n:=rfl
  have e1:∀ (a:Ent) (b:List Ent),nums (a::b)=a.f.map (·.2)++nums b:=fun a b=>by simp [nums]
  rw [e0,e1,e1,List.count_append,List.count_append]
  rcases za.1 he with rfl | he
  ·rw [zN1 rfl,qFN r e.k s n (fun y hy=>Nat.ne_of_gt (p1 y hy))]
   have:=qEu e.f s was n m hn hf
   show ((qAo e.f s n).map (·.2)).count m+_+_=_
   omega
  ·have hne:x.k≠e.k:=Nat.ne_of_lt (p1 e he)
   rw [zM1 hne]
   have ih:=qE3 r s was n m e p2 he hn hf
   omega
theorem qGp:∀ (l:List Ent) (s:Bytes) (was n:Nat) (e:Ent),l.Pairwise (fun a b=>a.k<b.k)→e∈l→(e.f.map (·.1)).Nodup→(s,was)∈e.f →
  ((qAK l e.k s n).map fun e=>(e.f.map (·.2)).sum).sum+was=(l.map fun e=>(e.f.map (·.2)).sum).sum+n
 | [],_,_,_,_,_,h,_,_=>by cases h
 | x::r,s,was,n,e,hk,he,hn,hf=>by
  obtain ⟨p1,p2⟩:=zk.1 hk
  have e0:qAK (x::r) e.k s n=(if x.k=e.k then { x with f:=qAo x.f s n } else x)::qAK r e.k s n:=rfl
  rw [e0]
  simp only [zX,List.sum_cons]
  rcases za.1 he with rfl | he
  ·rw [zN1 rfl,qFN r e.k s n (fun y hy=>Nat.ne_of_gt (p1 y hy))]
   have:=qFA e.f s was n hn hf
   show ((qAo e.f s n).map (·.2)).sum+_+_=_
   omega
  ·have hne:x.k≠e.k:=Nat.ne_of_lt (p1 e he)
   rw [zM1 hne]
   have ih:=qGp r s was n e p2 he hn hf
   omega
theorem qEQ {d d':Dirs} (hd:qAD d) (h:d.step=some d'):∃ e∈d.l,∃ s was n t1 t2,stepOf d.t d.l=some (e.k,s,was,n)∧(s,was)∈e.f∧d.t.lesser was=some n∧d.t.link n=.ok t1∧t1.unlink was=.ok t2 ∧
  d'={ d with t:=t2,l:=qAK d.l e.k s n }:=by
 unfold Dirs.step at h
 cases hs:stepOf d.t d.l with
 | none=>rw [hs] at h;cases h
 | some q =>
  obtain ⟨k,s,was,n⟩:=q
  obtain ⟨e,he,rfl,hf,hl⟩:=qFI hs
  obtain ⟨hlt,b,hr1,hr2,hx⟩:=qDP hl
  have hwas:(d.t.at_ was).isSome:=hd.there was (ze.2 ⟨e,he,zg (f:=(·.2)) hf⟩)
  obtain ⟨y,hy⟩:=zA1.1 hwas
  have hn:∃ z,d.t.at_ n=some z:=by
   cases hz:d.t.at_ n with
   | none=>rw [hz,hy] at hx;cases hx
   | some z=>exact ⟨z,rfl⟩
  obtain ⟨z,hz⟩:=hn
  obtain ⟨t1,h1⟩:=qLh hz
  have hy1:t1.at_ was=some y:=by rw [qDS hz h1,zM1 (by omega)];exact hy
  obtain ⟨t2,h2⟩:=qE8 hy1
  rw [hs] at h
  simp only [h1,h2] at h
  injection h with h
  exact ⟨e,he,s,was,n,t1,t2,rfl,hf,hl,h1,h2,h.symm⟩
theorem step_ok {d d':Dirs} (hd:qAD d) (h:d.step=some d') :
  qAD d'∧(∀ j,d'.get j=d.get j)∧d'.l.map (·.k)=d.l.map (·.k)∧d'.next=d.next∧d'.weight<d.weight:=by
 obtain ⟨e,he,s,was,n,t1,t2,hs,hf,hl,h1,h2,rfl⟩:=qEQ hd h
 obtain ⟨hlt,b,hr1,hr2,hx⟩:=qDP hl
 have hfn:(e.f.map (·.1)).Nodup:=by rw [hd.files e he];exact qBT _
 have hwn:was∈nums d.l:=ze.2 ⟨e,he,zg (f:=(·.2)) hf⟩
 obtain ⟨y,hy⟩:=zA1.1 (hd.there was hwn)
 obtain ⟨z,hz,_⟩:=qBV h1
 have hy1:t1.at_ was=some y:=by rw [qDS hz h1,zM1 (by omega)];exact hy
 have ha1:=qDS hz h1
 have ha2:=qDi hy1 h2
 have hcnt:=fun m=>qE3 d.l s was n m e hd.keys he hfn hf
 have hcw:=List.count_pos_iff.2 hwn
 have hyl:=hd.links was y hy
 have hkeys:=qJu d.l e.k s n
 have hmem:∀ a∈qAK d.l e.k s n,∃ x∈d.l,a.k=x.k∧a.n=x.n∧a.f.map (·.1)=x.f.map (·.1):=by
  intro a ha
  unfold qAK at ha
  obtain ⟨x,hx2,rfl⟩:=zf.1 ha
  refine ⟨x,hx2,?_⟩
  split
  ·exact ⟨rfl,rfl,qJW _ _ _⟩
  ·exact ⟨rfl,rfl,rfl⟩
 have hth:∀ m∈nums (qAK d.l e.k s n),(t2.at_ m).isSome:=by
  intro m hm
  have hc:=List.count_pos_iff.2 hm
  have hcm:=hcnt m
  rw [ha2]
  split
  ·rename_i em
   subst em
   rw [zN1 rfl,zM1 (by omega)] at hcm
   rw [zM1 (by omega)]
   rfl
  ·rename_i em
   rw [zM1 em] at hcm
   rw [ha1]
   split
   ·rfl
   ·rename_i em2
    rw [zM1 em2] at hcm
    exact hd.there m (List.count_pos_iff.1 (by omega))
 have hread:∀ m,(t2.at_ m).isSome→t2.read m=d.t.read m:=fun m hm=>by rw [qDN h2 hm,qIV h1]
 have hok:qAD { d with t:=t2,l:=qAK d.l e.k s n }:=by
  constructor
  ·exact qIJ (qMg hd.tab h1) h2
  ·have:=List.pairwise_map.2 hd.keys
   rw [← hkeys] at this
   exact List.pairwise_map.1 this
  ·intro a ha;obtain ⟨x,hx2,e1,_,_⟩:=hmem a ha;rw [e1];exact hd.next x hx2
  ·intro a ha;obtain ⟨x,hx2,_,e2,_⟩:=hmem a ha;rw [e2];exact hd.well x hx2
  ·intro a ha;obtain ⟨x,hx2,_,e2,_⟩:=hmem a ha;rw [e2];exact hd.bare x hx2
  ·intro a ha;obtain ⟨x,hx2,_,e2,e3⟩:=hmem a ha;rw [e3,e2];exact hd.files x hx2
  ·intro m x hx2
   have hx3:t2.at_ m=some x:=hx2
   rw [ha2] at hx3
   have hcm:=hcnt m
   show x.links=(nums (qAK d.l e.k s n)).count m
   split at hx3
   ·rename_i em
    subst em
    split at hx3
    ·cases hx3
    ·injection hx3 with hx3
     subst hx3
     rw [zN1 rfl,zM1 (by omega)] at hcm
     show y.links-1=_
     omega
   ·rename_i em
    rw [zM1 em] at hcm
    rw [ha1] at hx3
    split at hx3
    ·rename_i em2
     injection hx3 with hx3
     subst hx3
     subst em2
     rw [zN1 rfl] at hcm
     have:=hd.links m z hz
     show z.links+1=_
     omega
    ·rename_i em2
     rw [zM1 em2] at hcm
     have:=hd.links m x hx3
     omega
  ·exact hth
 refine ⟨hok,?_,hkeys,rfl,?_⟩
 ·intro j
  have hent:qAh (qAK d.l e.k s n) j=(qAh d.l j).map fun a=>if a.k=e.k then { a with f:=qAo a.f s n } else a:=by
   unfold qAh qAK
   rw [List.find?_map]
   congr 1
   congr 1
   funext a
   simp only [Function.comp]
   split<;>rfl
  cases hj:qAh d.l j with
  | none=>unfold Dirs.get;simp only [hent,hj];rfl
  | some a =>
   rw [hj,zB1] at hent
   obtain ⟨hal,rfl⟩:=qA1 hj
   by_cases hae:a.k=e.k
   ·have:a=e:=by
     have q1:=qAs hd.keys hal
     have q2:=qAs hd.keys he
     rw [hae,q2] at q1
     injection q1 with q1
     exact q1.symm
    subst this
    rw [zN1 rfl] at hent
    refine get_congr hj hent rfl fun x hx2 hk=>?_
    obtain ⟨m,hm1,hm2,hm3⟩:=qFw hd hal hx2 hk
    rw [hm1]
    show t2.read ((qAG (qAo a.f s n) (told x.path)).getD 0)=_
    rw [qBx]
    by_cases hps:told x.path=s
    ·have hmw:m=was:=by
      have:=qBs hfn hf
      rw [← hps,hm1] at this
      injection this
     rw [zN1 hps,hm1]
     simp only [zB1,zz]
     rw [hmw,hr1,hread n,hr2]
     rw [ha2,zM1 (by omega),ha1,zN1 rfl];rfl
    ·rw [zM1 hps,hm1]
     have hm4:m∈nums (qAK d.l a.k s n):=by
      refine ze.2 ⟨{ a with f:=qAo a.f s n },?_,?_⟩
      ·unfold qAK
       exact zf.2 ⟨a,hal,by rw [zN1 rfl]⟩
      ·have h5:qAG (qAo a.f s n) (told x.path)=some m:=by rw [qBx,zM1 hps,hm1]
       unfold qAG at h5
       cases hfd:(qAo a.f s n).find? (fun p=>p.1==told x.path) with
       | none=>rw [hfd] at h5;cases h5
       | some p =>
        rw [hfd] at h5
        injection h5 with h5
        rw [← h5]
        exact zg (f:=(·.2)) (zh hfd)
     exact hread m (hth m hm4)
   ·rw [zM1 hae] at hent
    refine get_congr hj hent rfl fun x hx2 hk=>?_
    obtain ⟨m,hm1,hm2,hm3⟩:=qFw hd hal hx2 hk
    rw [hm1]
    refine hread m (hth m (ze.2 ⟨a,?_,hm2⟩))
    unfold qAK
    exact zf.2 ⟨a,hal,by rw [zM1 hae]⟩
 ·have:=qGp d.l s was n e hd.keys he hfn hf
  unfold Dirs.weight
  show ((qAK d.l e.k s n).map _).sum<_
  omega
theorem qG7:∀ (f:Nat) (d:Dirs),qAD d→d.weight≤f→qAD (Dirs.merge f d).2∧(∀ j,(Dirs.merge f d).2.get j=d.get j)∧(Dirs.merge f d).2.l.map (·.k)=d.l.map (·.k)∧(Dirs.merge f d).2.next=d.next∧(Dirs.merge f d).2.step=none∧(Dirs.merge f d).1≤d.weight
 | 0,d,hd,hw=>by
  have:d.step=none:=by
   cases hs:d.step with
   | none=>rfl
   | some d1=>have:=(step_ok hd hs).2.2.2.2;omega
  exact ⟨hd,fun _=>rfl,rfl,rfl,this,by simp [Dirs.merge]⟩
 | f+1,d,hd,hw=>by
  unfold Dirs.merge
  cases hs:d.step with
  | none=>exact ⟨hd,fun _=>rfl,rfl,rfl,hs,by simp⟩
  | some d1 =>
   obtain ⟨a1,a2,a3,a4,a5⟩:=step_ok hd hs
   obtain ⟨b1,b2,b3,b4,b5,b6⟩:=qG7 f d1 a1 (by omega)
   exact ⟨b1,fun j=>by rw [b2,a2],by rw [b3,a3],by rw [b4,a4],b5,by simp only;omega⟩
end Stl
