/- Lemmas. -/
import Derived.Deep.LoopGhost
import Derived.LaidEql
import Derived.RowKitTokens
import Derived.Stop.Asserts
import Derived.Test.YtbmkaekimccdgaaGreatDoorBm10
import Derived.Test.YtbmkaekimccdgaaGreatDoorBm11
set_option maxHeartbeats 16000000
set_option maxRecDepth 1000000
set_option linter.all false
namespace Stl
theorem qKW (U:List Bool)(i:Nat)(h:i<U.length):yT 0 (U.take (i+1))=yT 0 (U.take i)++(if U[i]=true then [] else [i]):=by
 rw[zn h,wG];congr 1;simp only[zv,List.length_take,Nat.min_eq_left (Nat.le_of_lt h)]
 cases U[i]<;>rfl
theorem qIA (U:List Bool)(i:Nat):∃ r,uZ U=yT 0 (U.take i)++r :=
 ⟨_,by unfold uZ;conv=>lhs;rw[← List.take_append_drop i U,wG]⟩
theorem qEu:∀ (U:List Bool) (i k:Nat),k∈yT i U→i≤k∧k<i+U.length
 | [],_,_,h=>by simp[yT] at h
 | true::r,i,k,h=>by have:=qEu r (i+1) k h;simp;omega
 | false::r,i,k,h=>by
  simp only[yT,zY] at h
  rcases h with rfl | h
  ·simp
  ·have:=qEu r (i+1) k h;simp;omega
theorem qAs:∀ (a b:List Nat) (U:List Bool) (v:Bool),yV U v (a++b)=yV (yV U v a) v b
 | [],_,_,_=>rfl
 | x::a,b,U,v=>qAs a b (U.set x v) v
end Stl
namespace Go.Proofs.YtbmkaekimccdgaaGreatDoor
open Go.RowKit Go.Sort Stl
theorem qHK (n:Nat)(hn:n≤1000000)(w:World) :
  Calls Tryz.prog 238 #[.int .i64 n] w fun e w'=>e=.returned (.int .i64 (jL n))∧w'=w:=by
 rcases Nat.eq_zero_or_pos n with h0 | h0
 ·subst h0;go_enter Tryz.func238,Tryz.ntmps238;go_wp2;go_ret;exact⟨rfl,rfl⟩
 ·have i1:¬ (n:Int)<1:=by omega
  have i2:((n:Int)-1)/16+1=((jL n:Nat):Int):=by unfold jL;omega
  have HN:=Hh i2;clear i2;go_enter Tryz.func238,Tryz.ntmps238;go_wp2;go_ret;exact⟨by rw[← HN.o];rfl,rfl⟩
section
variable {w:World}{c:Nat→Col}{b:Nat}{U:List Bool}
theorem lt_of_cell {w:World}{a:Addr}{v:Value}(h:w.cell? a=some v):a.block<w.heap.size:=by
 rcases zu a.block w.heap.size with h1 | h1
 ·exact h1
 ·simp[World.cell?,Array.getElem?_eq_none h1] at h
structure SpaceV (w:World)(c:Nat→Col)(b:Nat)(v:Value)(N:Nat)(U:List Bool):Prop where
 own:w.heap[b]?=some (.cells #[v] 124 (0,0))
 col:c b=.space
 row:RowAt w c .used 4 1 v N (U.map Value.bool)
theorem SpaceV.ext {w w2:World}{c c2:Nat→Col}{S:Col→Bool}{b:Nat}{v:Value}{N:Nat}{U:List Bool}(h:SpaceV w c b v N U)(e:Ext w w2 c c2 S)(h1:S .space=false)(h2:S .used=false):SpaceV w2 c2 b v N U :=
 ⟨(e.kept h.own h.col h1).1,(e.kept h.own h.col h1).2,h.row.ext e h2⟩
theorem SpaceV.at' {w:World}{c:Nat→Col}{b:Nat}{v:Value}{N:Nat}{U:List Bool}(h:SpaceV w c b v N U)(e:U.length=N):SpaceAt w c b U:=⟨v,h.own,h.col,by rw[e];exact h.row⟩
theorem SpaceV.at {w:World}{c:Nat→Col}{b:Nat}{v:Value}{U:List Bool}(h:SpaceV w c b v U.length U):SpaceAt w c b U:=⟨v,h.own,h.col,h.row⟩
theorem qNA (h:SpaceAt w c b U)(hU:U.length≤1000000)(k:Nat)(hk:k≤(uZ U).length) :
  Calls Tryz.prog 239 #[.pointer (some ⟨b,0,none⟩),.int .i64 k] w fun e w'=>∃ A cap c2,e=.returned (.tuple #[.slice A ((uZ U).take k).length cap,.nilIface])∧Ext w w' c c2 (S1 .used)∧SpaceAt w' c2 b (yV U true ((uZ U).take k))∧RoInts w' c2 A ((uZ U).take k)∧((uZ U).take k).length≤cap:=by
 have H:=Hh h;have i1:¬ (k:Int)<0:=by omega
 have i2:¬ ((uZ U).length:Int)<(k:Int):=by omega
 have hlen:(ons U).length+(uZ U).length=U.length:=xL U 0;clear h;go_enter Tryz.func239,Tryz.ntmps239;go_upto_region 4 with (go_at_call 188;refine(qE3 H.o hU).mono ?_;rintro ev w0 ⟨rfl,hb⟩);obtain⟨v,hb',hc,hr⟩:=H.o.ext (Ext.of_below hb c S0) rfl rfl;obtain⟨A,cap,rfl⟩:=hr.slice;have HS:=Hh (SpaceV.mk hb' hc hr);have HE0:=Hh (Ext.of_below hb c (S1 .used));have hws:=hb.size;clear hb' hr hb;go_wp2_with fail;rw[show decide ((uZ U).length<k)=false by simpa using hk]
 go_loopw [6,7] (fun v a wr=>∃ (i:Nat) (cr:Nat→Col),i≤U.length∧(yT 0 (U.take i)).length≤k∧a=.int .i64 i∧Hg (Ext w wr c cr (S1 .used))∧Hg (SpaceV wr cr b (.slice A U.length cap) U.length (yV U true (yT 0 (U.take i))))∧Hg (RowAt wr cr .free 3 1 v (yT 0 (U.take i)).length ((yT 0 (U.take i)).map dW))∧Hg (∀ g,v.ownBlock=some g→w.heap.size≤g)) (fun _ a _=>U.length-(intOf a).toNat)
 case atStart=>exact⟨0,c,zw _,zw _,rfl,HE0,HS,Hh (RowAt.nil _ _ _ _ _),Hh (fun g hg=>by simp[Value.ownBlock] at hg)⟩
 case round =>
  obtain⟨i,cr,hi,hik,rfl,HE,HV,HO,HN⟩:=hrel;obtain⟨A2,c2,rfl⟩:=HO.o.slice;by_cases hlk:(yT 0 (U.take i)).length<k
  ·have hil:i<U.length:=by
    rcases zu i U.length with h1 | h1
    ·exact h1
    ·rw[zm h1] at hlk;have:(uZ U).length<k:=hlk;omega
   have i3:(i:Int)<(U.length:Int):=by omega
   have i4:(0:Int)≤(i:Int):=by omega
   have HT:=Hh (qKW U i hil);have HLT:=Hh (show ∀ j∈yT 0 (U.take i),j<i from fun j hj=>by have:=qEu _ _ _ hj;simp at this;omega);have i5:((yT 0 (U.take i)).length:Int)<(k:Int):=by omega
   generalize yT 0 (U.take i)=l at *;obtain⟨g,cap',e2,hg,hgl,_,_⟩:=HV.o.row.pos (by omega);simp only[zC1] at e2;obtain⟨rfl,_,rfl⟩:=e2;have c0:=ce0 HV.o.own;have hUi:(yV U true l)[i]?=some U[i]:=by
    rw[nM l U true i hil,zL1 (fun hm=>by have:=HLT.o i hm;omega),zL hil]
   have q0:wr.cell? ⟨g,i,none⟩=some (.bool U[i]):=by
    rw[HV.o.row.cellAt i (by omega),zN,hUi];rfl
   have f0:=HV.o.row.frozenAt i
   cases hu:U[i] with
   | true =>
    rw[hu] at q0 HT;clear hu hUi;go_wp2;go_roundw
    case rel =>
     refine⟨i+1,cr,hil,?_,by go_num,HE,?_,?_,HN⟩
     ·rw[HT.o];simpa using hik
     ·rw[HT.o];simpa using HV
     ·rw[HT.o];simpa using HO
    case measure=>simp[intOf];omega
   | false =>
    rw[hu] at q0 HT;clear hu hUi;go_upto_region 11 with fail;obtain⟨h3,e3⟩:=HV.o.row.stored i (.bool true);have HV1:=Hh (show SpaceV (wr.setCell ⟨g,i,none⟩ (.bool true)) cr b (.slice (some ⟨g,0,none⟩) U.length cap) U.length (yV U true (l++[i])) from
     ⟨(e3.kept HV.o.own HV.o.col rfl).1,HV.o.col,by
      rw[qAs]
      simpa[yV,List.map_set] using h3⟩)
    have HO1:=Hh (HO.o.ext e3 rfl);have HE1:=Hh (HE.o.trans e3);clear h3 e3 c0 q0 f0;generalize wr.setCell ⟨g,i,none⟩ (.bool true)=W1 at *;have HEa:=Hh ((Ext.refl W1 cr S0).alloc (.cells #[.int .i64 i] 3));have HO2:=Hh (HO1.o.ext HEa.o rfl);have hkm:l.length≤1000000:=by omega
    go_wp2_with (at_builtin;refine qBi rfl _ _ 220 rfl qGD Tryz.underlying220 rfl HO2.o (some ⟨W1.heap.size,0,none⟩) 1 1 [.int .i64 i] rfl rfl (fun h=>by cases h) (jD _ _ _) (by simp[Value.oneCell']) (by unfold maxLen;omega) (by omega) ?_;intro A4 c4 w4 hrow hext hgr hat);have HO4:=Hh hrow;have HX:=Hh ((HEa.o.mono (S':=S1 .free) (fun _ _=>rfl)).trans hext);have HE4:=Hh (Ext.appended (HE1.o.alloc (.cells #[.int .i64 i] 3)) hgr HN.o .free);have HN4:=Hh (qFR hat HN.o (HE1.o.alloc (.cells #[.int .i64 i] 3)).size);have hT:yT 0 (U.take (i+1))=l++[i]:=by simpa using HT.o
    have HT':=Hh hT;clear hrow hext hat hgr hT;go_roundw
    case rel =>
     refine⟨i+1,_,hil,?_,by go_num,HE4,?_,?_,HN4⟩
     ·rw[HT'.o];simp;omega
     ·rw[HT'.o];exact Hh (HV1.o.ext HX.o rfl rfl)
     ·rw[HT'.o];simpa using HO4
    case measure=>simp[intOf];omega
  ·have i3:¬ ((yT 0 (U.take i)).length:Int)<(k:Int):=by omega
   obtain⟨r,hsp⟩:=qIA U i;have HK:=Hh (show (uZ U).take k=yT 0 (U.take i) by
    rw[hsp,zj (by omega),zm (by omega)])
   clear hsp;have HKL:=Hh (show (yT 0 (U.take i)).length=k by omega);generalize yT 0 (U.take i)=l at *;go_wp2;go_ret2;rw[HK.o]
   rcases HO.o.1.2 with ⟨h1,h2⟩ | ⟨g,cap2,cur,h1,_,h3,h4,h5,h6,h7⟩
   ·have:l=[]:=zH h2;subst this;simp only[List.length_nil,zC1] at h1;obtain⟨rfl,_,rfl⟩:=h1;exact⟨none,0,by rw[← HKL.o];rfl,cr,HE.o,HV.o.at' (yQ _ _ _),fun h=>absurd rfl h,by simpa using hlk⟩
   ·simp only[zC1] at h1;obtain⟨rfl,_,rfl⟩:=h1;have hkc:k≤c2:=by omega
    have hp:=Ext.paint wr (HO.o.2 g rfl) .ro;refine⟨some ⟨g,0,none⟩,c2,by rw[← HKL.o];rfl,jC cr g .ro,HE.o.recolor fun b hb _=>kK (by have:=HN.o g rfl;omega),(HV.o.ext hp rfl rfl).at' (yQ _ _ _),fun _=>⟨g,0,rfl,qA h3,qM _ _ _,fun j x hx=>?_⟩,hkc⟩;rw[zv,HO.o.cellAt j (by have:=(zM.1 hx).1;omega),zN,hx];rfl
end
end Go.Proofs.YtbmkaekimccdgaaGreatDoor
namespace Go.Proofs.YtbmkaekimccdgaaGreatDoor
open Go.RowKit Go.Maps Go.Sort Go.Shelf
mutual
def NodeAt (w:World):Stl.Nd→List Value→Prop
 | .mk k d e ks,vs=>∃ A c,vs=[.string ⟨k.toArray⟩,.string ⟨d.toArray⟩,.bool e,.slice A ks.length c]∧(ks.length≤c∧ks.length≤1759218604441∧k.length≤140737488355328∧d.length≤140737488355328)∧(ks≠[]→∃ b off,A=some ⟨b,off,none⟩∧b<w.heap.size∧KidsAt w b off ks)
def KidsAt (w:World)(b:Nat):Nat→List (List UInt8×Stl.Nd)→Prop
 | _,[]=>True
 | off,(name,x)::r=>(w.cell? ⟨b,off,none⟩=some (.string ⟨name.toArray⟩)∧name.length≤140737488355328) ∧
   (∃ v0 v1 v2 v3,w.cell? ⟨b,off+1,none⟩=some v0∧w.cell? ⟨b,off+2,none⟩=some v1∧w.cell? ⟨b,off+3,none⟩=some v2∧w.cell? ⟨b,off+4,none⟩=some v3∧NodeAt w x [v0,v1,v2,v3])∧KidsAt w b (off+5) r
end
mutual
theorem NodeAt.later {w w':World}(hb:Below w.heap.size w w'):∀ (n:Stl.Nd) (vs:List Value),NodeAt w n vs→NodeAt w' n vs
 | .mk k d e ks,vs,h=>by
  unfold NodeAt at h ⊢;obtain⟨A,c,h1,h2,h3⟩:=h;refine⟨A,c,h1,h2,fun hn=>?_⟩;obtain⟨b,off,h4,h5,h6⟩:=h3 hn;exact⟨b,off,h4,zt h5 hb.size,KidsAt.later hb h5 ks off h6⟩
theorem KidsAt.later {w w':World}(hb:Below w.heap.size w w'){b:Nat}(hlt:b<w.heap.size):∀ (ks:List (List UInt8×Stl.Nd)) (off:Nat),KidsAt w b off ks→KidsAt w' b off ks
 | [],_,_=>by unfold KidsAt;trivial
 | (name,x)::r,off,h=>by
  unfold KidsAt at h ⊢;obtain⟨h1,⟨v0,v1,v2,v3,c0,c1,c2,c3,h2⟩,h3⟩:=h;have go:∀ (o:Nat) (v:Value),w.cell? ⟨b,o,none⟩=some v→w'.cell? ⟨b,o,none⟩=some v:=fun o v hv=>(hb.cell (p:=⟨b,o,none⟩) hlt).trans hv
  exact⟨⟨go _ _ h1.1,h1.2⟩,⟨v0,v1,v2,v3,go _ _ c0,go _ _ c1,go _ _ c2,go _ _ c3,NodeAt.later hb x _ h2⟩,KidsAt.later hb hlt r (off+5) h3⟩
end
theorem KidsAt.at {w:World}{b:Nat}:∀ (ks:List (List UInt8×Stl.Nd)) (off j:Nat) (name:List UInt8) (x:Stl.Nd),KidsAt w b off ks→ks[j]?=some (name,x) →
  (w.cell? ⟨b,off+j*5,none⟩=some (.string ⟨name.toArray⟩)∧name.length≤140737488355328)∧∃ v0 v1 v2 v3,w.cell? ⟨b,off+j*5+1,none⟩=some v0∧w.cell? ⟨b,off+j*5+2,none⟩=some v1∧w.cell? ⟨b,off+j*5+3,none⟩=some v2∧w.cell? ⟨b,off+j*5+4,none⟩=some v3∧NodeAt w x [v0,v1,v2,v3]
 | [],_,_,_,_,_,h=>by simp at h
 | (name0,x0)::r,off,0,name,x,h,hj=>by
  unfold KidsAt at h;simp only[List.getElem?_cons_zero,zB1,Prod.mk.injEq] at hj;obtain⟨rfl,rfl⟩:=hj;exact⟨h.1,h.2.1⟩
 | (name0,x0)::r,off,j+1,name,x,h,hj=>by
  unfold KidsAt at h;simp only[List.getElem?_cons_succ] at hj;have:=KidsAt.at r (off+5) j name x h.2.2 hj;rw[show off+5+j*5=off+(j+1)*5 by omega] at this;exact this
end Go.Proofs.YtbmkaekimccdgaaGreatDoor
namespace Go.Proofs.YtbmkaekimccdgaaGreatDoor
open Go.RowKit Go.Extern.Stop Go.Stop Go.Extern
def wA:Nat→Nat
 | 1=>1
 | 2=>0
 | 3=>2
 | 4=>3
 | 5=>4
 | 6=>5
 | 7=>6
 | 8=>7
 | 9=>8
 | 10=>9
 | 11=>10
 | 12=>12
 | _=>12
structure Errs (w:World)(p:Nat→Addr):Prop where
 at_:∀ c,1≤c→c≤13→errAt w (wA c) (p c)
 row:∀ c,1≤c→c≤13→∃ cs ts,w.heap[(p c).block]?=some (.cells cs ts (0,0))
 ne:∀ c d,1≤c→c<d→d≤13→wA c≠wA d→p c≠p d
 ety:w.cell? ⟨13,0,none⟩=some (.iface 161 (.agg #[.pointer (some ⟨27,27,none⟩)]))∧13<w.heap.size
theorem Errs.later {w w':World}{p:Nat→Addr}(h:Errs w p)(hb:Below w.heap.size w w'):Errs w' p:=by
 refine⟨fun c h1 h2=>(h.at_ c h1 h2).later hb,fun c h1 h2=>?_,h.ne,(hb.cell (p:=⟨13,0,none⟩) h.ety.2).trans h.ety.1,zt h.ety.2 hb.size⟩;obtain⟨cs,ts,hc⟩:=h.row c h1 h2;exact⟨cs,ts,(hb.block _ (zN1 hc)).trans hc⟩
theorem Errs.apart {w:World}{p:Nat→Addr}(h:Errs w p){c d:Nat}(c1:1≤c)(c2:c≤13)(d1:1≤d)(d2:d≤13)(hg:wA c≠wA d):p c≠p d:=by
 have hn:c≠d:=fun e=>hg (by rw[e])
 rcases zu c d with hl | hl
 ·exact h.ne c d c1 hl d2 hg
 ·exact fun e=>h.ne d c d1 (by omega) c2 hg.symm e.symm
def jK (p:Nat→Addr)(c:Nat):Value:=if c=0 then .nilIface else .iface 376 (.pointer (some (p c)))
theorem qGE (t:Addr)(w:World):(ReflectliteValue.unpack (.iface 69 (.pointer (some t)))).run Tryz.prog w
  = .ok (.agg #[.pointer (some ⟨27,69,none⟩),.pointer (some ⟨w.heap.size,0,none⟩),.int .u64 150]) (w.alloc (.cells #[.pointer (some t)] 69)):=by kernel_rfl
theorem qM1 (a:Addr)(w:World):(ReflectliteValue.methodAny (ReflectliteValue.valueError "reflectlite.Value.Type" 0) (fun t _ _ _=>ReflectliteType.toType t) #[.agg #[.pointer (some ⟨27,69,none⟩),.pointer (some a),.int .u64 150]]).run Tryz.prog w
  = .ok (.iface 161 (.agg #[.pointer (some ⟨27,69,none⟩)])) w:=by kernel_rfl
theorem qFu (h:Value)(w:World):(Go.method 543 161 (.agg #[h]) "Kind").run Tryz.prog w=.ok (350,h) w:=by kernel_rfl
theorem qLW (w:World):((ReflectliteType.abiMethod fun t=>(fun a:Nat=>Value.int IntKind.u8 (a:Int)) <$> Rtype.kind t) #[.pointer (some ⟨27,69,none⟩)]).run Tryz.prog w=.ok (.int .u8 22) w:=by kernel_rfl
theorem qNW (w:World):((ReflectliteType.abiMethod fun t=>(fun a:Nat=>Value.int IntKind.u8 (a:Int)) <$> Rtype.kind t) #[.pointer (some ⟨27,67,none⟩)]).run Tryz.prog w=.ok (.int .u8 22) w:=by kernel_rfl
theorem qO0 (z:Sem Value)(f:TypeId→Addr→Nat→Nat→Sem Value)(v:Value) :
  ReflectliteValue.method z f #[v]=(do match ← ReflectliteValue.parts v with | none=>z | some (t,a,fl)=>f t a fl (fl%32)):=rfl
theorem qJy (a:Addr)(w:World):(ReflectliteValue.parts (.agg #[.pointer (some ⟨27,69,none⟩),.pointer (some a),.int .u64 150])).run Tryz.prog w=.ok (some (69,a,150)) w:=by kernel_rfl
theorem qKv (a p:Addr)(W:World)(ha:W.cell? a=some (.pointer (some p))) :
  (ReflectliteValue.method (ReflectliteValue.valueError "reflectlite.Value.IsNil" 0) ReflectliteValue.isNil #[.agg #[.pointer (some ⟨27,69,none⟩),.pointer (some a),.int .u64 150]]).run Tryz.prog W=.ok (.bool false) W:=by
 rw[qO0];simp only[Sem.run_bind,qJy,Result.andThen];simp[ReflectliteValue.isNil,loadVar,isAgg,underlying,Tryz.underlying69,ha,Result.andThen]
theorem qFI (h:Value)(w:World):(Go.method 543 161 (.agg #[h]) "Elem").run Tryz.prog w=.ok (362,.agg #[h]) w:=by kernel_rfl
theorem qBs (h:Value)(w:World):(Go.method 543 161 (.agg #[h]) "Implements").run Tryz.prog w=.ok (363,.agg #[h]) w:=by kernel_rfl
theorem qAL (h:Value)(w:World):(Go.method 543 161 (.agg #[h]) "AssignableTo").run Tryz.prog w=.ok (360,.agg #[h]) w:=by kernel_rfl
theorem qMl (w:World):(ReflectliteType.method ReflectliteType.elem #[.agg #[.pointer (some ⟨27,69,none⟩)]]).run Tryz.prog w=.ok (.iface 161 (.agg #[.pointer (some ⟨27,67,none⟩)])) w:=by kernel_rfl
theorem qD4 (w:World):(ReflectliteType.relation "Implements" ReflectliteType.implements_ #[.agg #[.pointer (some ⟨27,67,none⟩)],.iface 161 (.agg #[.pointer (some ⟨27,27,none⟩)])]).run Tryz.prog w=.ok (.bool true) w:=by kernel_rfl
theorem qCu (v:Value)(w:World):(ReflectliteType.typeOf #[.iface 376 v]).run Tryz.prog w=.ok (.iface 161 (.agg #[.pointer (some ⟨27,376,none⟩)])) w:=by kernel_rfl
theorem qEt (w:World):(ReflectliteType.relation "AssignableTo" ReflectliteType.assignableTo #[.agg #[.pointer (some ⟨27,376,none⟩)],.iface 161 (.agg #[.pointer (some ⟨27,67,none⟩)])]).run Tryz.prog w=.ok (.bool false) w:=by kernel_rfl
theorem qOS (v:Value)(xT:TypeId)(w:World):(Instr.typeAssert (.iface 376 v) xT 165 true).run Tryz.prog w=.ok (.tuple #[.nilIface,.bool false]) w:=run_typeAssert_lacksB Tryz.underlying165 (by kernel_rfl) (by kernel_rfl) v xT w
theorem qEJ (v:Value)(xT:TypeId)(w:World):(Instr.typeAssert (.iface 376 v) xT 168 true).run Tryz.prog w=.ok (.tuple #[.nilIface,.bool false]) w:=run_typeAssert_lacksB Tryz.underlying168 (by kernel_rfl) (by kernel_rfl) v xT w
theorem qDS (v:Value)(xT:TypeId)(w:World):(Instr.typeAssert (.iface 376 v) xT 170 true).run Tryz.prog w=.ok (.tuple #[.nilIface,.bool false]) w:=run_typeAssert_lacksB Tryz.underlying170 (by kernel_rfl) (by kernel_rfl) v xT w
theorem qNK (e t:Addr)(w:World)(hg:w.cell? ⟨13,0,none⟩=some (.iface 161 (.agg #[.pointer (some ⟨27,27,none⟩)]))) :
  Calls Tryz.prog 22 #[.iface 376 (.pointer (some e)),.iface 69 (.pointer (some t))] w fun ev w'=>ev=.returned (.bool false)∧Below w.heap.size w w':=by
 have h6:=@run_callFunc_extern Tryz.prog 40 _ (fun args=>ReflectliteValue.unpack (args.getD 0 (.tuple #[]))) Tryz.func40 (by kernel_rfl) (by kernel_rfl) (by kernel_rfl) (by kernel_rfl);have h7:=@run_callFunc_extern Tryz.prog 41 _ (ReflectliteValue.methodAny (ReflectliteValue.valueError "reflectlite.Value.Type" 0) (fun t _ _ _=>ReflectliteType.toType t)) Tryz.func41 (by kernel_rfl) (by kernel_rfl) (by kernel_rfl) (by kernel_rfl);have h8:=@run_callFunc_extern Tryz.prog 42 _ (ReflectliteValue.method (ReflectliteValue.valueError "reflectlite.Value.IsNil" 0) ReflectliteValue.isNil) Tryz.func42 (by kernel_rfl) (by kernel_rfl) (by kernel_rfl) (by kernel_rfl);have h27:=@run_callFunc_extern Tryz.prog 350 _ (ReflectliteType.abiMethod fun t=>do pure (.int .u8 (← Rtype.kind t))) Tryz.func350 (by kernel_rfl) (by kernel_rfl) (by kernel_rfl) (by kernel_rfl);have h37:=@run_callFunc_extern Tryz.prog 362 _ (ReflectliteType.method ReflectliteType.elem) Tryz.func362 (by kernel_rfl) (by kernel_rfl) (by kernel_rfl) (by kernel_rfl);have h38:=@run_callFunc_extern Tryz.prog 363 _ (ReflectliteType.relation "Implements" ReflectliteType.implements_) Tryz.func363 (by kernel_rfl) (by kernel_rfl) (by kernel_rfl) (by kernel_rfl);have h10:=@run_callFunc_extern Tryz.prog 44 _ ReflectliteType.typeOf Tryz.func44 (by kernel_rfl) (by kernel_rfl) (by kernel_rfl) (by kernel_rfl);have h35:=@run_callFunc_extern Tryz.prog 360 _ (ReflectliteType.relation "AssignableTo" ReflectliteType.assignableTo) Tryz.func360 (by kernel_rfl) (by kernel_rfl) (by kernel_rfl) (by kernel_rfl);have tO:=qCu;have mA:=qAL;have a25:=qEt;have f6:=qGE;have f7:=qM1;have mK:=qFu;have mE:=qFI;have mI:=qBs;have k27:=qLW;have k25:=qNW;have e27:=qMl;have i25:=qD4;have nA:=qOS;have uE:=qEJ;have vE:=qDS;have n8:=qKv ⟨w.heap.size,0,none⟩ t ((w.alloc (.cells #[.pointer (some t)] 69)).alloc (.cells #[.pointer (some ⟨27,69,none⟩),.pointer (some ⟨w.heap.size,0,none⟩),.int .u64 150] 101)) (by simp);have hlt:13<w.heap.size:=by
  rcases zu 13 w.heap.size with h | h
  ·exact h
  ·simp[World.cell?,Array.getElem?_eq_none h] at hg
 have hg2:((w.alloc (.cells #[.pointer (some t)] 69)).alloc (.cells #[.pointer (some ⟨27,69,none⟩),.pointer (some ⟨w.heap.size,0,none⟩),.int .u64 150] 101)).cell? ⟨13,0,none⟩=some (.iface 161 (.agg #[.pointer (some ⟨27,27,none⟩)])):=by
  rw[World.cell?_alloc_lt _ _ ⟨13,0,none⟩ (by simp;omega),World.cell?_alloc_lt _ _ ⟨13,0,none⟩ hlt];exact hg
 clear hg hlt;go_enter Tryz.func22,Tryz.ntmps22;go_wp2;refine wp_loop_rounds 1 ?_;rw[rounds_succ];go_wp2;go_ret;exact⟨rfl,((((zB _ w).alloc (zo _) _).alloc (by simp) _).alloc (by simp;omega) _)⟩
end Go.Proofs.YtbmkaekimccdgaaGreatDoor
namespace Stl
def shapeB (k d:qB)(e:Bool)(n:Nat):Bool :=
 if k=kFile then n==0 else if k=kDir then d.isEmpty&&!e else !e&&n==0
theorem kinds (k:qB):(k=kFile∧(k==[102,105,108,101])=true∧(k==[100,105,114])=false∧(k==[108,105,110,107])=false)∨(k=kDir∧(k==[102,105,108,101])=false∧(k==[100,105,114])=true∧(k==[108,105,110,107])=false)
  ∨ (k=kLink∧(k==[102,105,108,101])=false∧(k==[100,105,114])=false∧(k==[108,105,110,107])=true)∨((k≠kFile∧k≠kDir∧k≠kLink)∧(k==[102,105,108,101])=false∧(k==[100,105,114])=false∧(k==[108,105,110,107])=false):=by
 by_cases h1:k=kFile
 ·subst h1;exact .inl (by decide)
 ·by_cases h2:k=kDir
  ·subst h2;exact .inr (.inl (by decide))
  ·by_cases h3:k=kLink
   ·subst h3;exact .inr (.inr (.inl (by decide)))
   ·exact .inr (.inr (.inr ⟨⟨h1,h2,h3⟩,by simpa[kFile] using h1,by simpa[kDir] using h2,by simpa[kLink] using h3⟩))
end Stl
namespace Go.Proofs.YtbmkaekimccdgaaGreatDoor
open Go.RowKit
theorem qCk (k d:List UInt8)(e:Bool)(A:Option Addr)(n c:Nat)(hn:n≤9223372036854775807)(w:World) :
  Calls Tryz.prog 255 #[.agg #[.string ⟨k.toArray⟩,.string ⟨d.toArray⟩,.bool e,.slice A n c]] w fun ev w'=>ev=.returned (.bool (Stl.shapeB k d e n))∧Below w.heap.size w w':=by
 have hb:Below w.heap.size w (w.alloc (.cells #[.string ⟨k.toArray⟩,.string ⟨d.toArray⟩,.bool e,.slice A n c] 134)):=(zB _ w).alloc (zo _) _;have HB:=Hh hb;clear hb;have HS:Hg (Stl.shapeB k d e n=if k=Stl.kFile then n==0 else if k=Stl.kDir then d.isEmpty&&!e else !e&&n==0):=Hh rfl;generalize Stl.shapeB k d e n=r at HS;have fd:Stl.kDir≠Stl.kFile:=by decide
 have fl:Stl.kLink≠Stl.kFile:=by decide
 have dl:Stl.kLink≠Stl.kDir:=by decide
 have FD:=Hh fd;have FL:=Hh fl;have DL:=Hh dl;clear fd fl dl;by_cases hn0:n=0
 ·subst hn0
  rcases Stl.kinds k with ⟨h0,h1,h2,h3⟩ | ⟨h0,h1,h2,h3⟩ | ⟨h0,h1,h2,h3⟩ | ⟨h0,h1,h2,h3⟩
  ·have HR:=Hh (show r=true by rw[HS.o,zM1 h0];rfl);clear h0;go_enter Tryz.func255,Tryz.ntmps255;go_wp2;go_ret;exact⟨by rw[HR.o];rfl,HB.o⟩
  ·have HR:=Hh (show r=(d.isEmpty&&!e) by rw[HS.o,h0,zL1 FD.o,zM1 rfl]);clear h0
   cases d with
   | nil =>
    cases e
    all_goals
     go_enter Tryz.func255,Tryz.ntmps255;go_wp2;go_ret;exact⟨by rw[HR.o];rfl,HB.o⟩
   | cons a t =>
    have hd:((a::t)==[])=false:=rfl;go_enter Tryz.func255,Tryz.ntmps255;go_wp2;go_ret;exact⟨by rw[HR.o];rfl,HB.o⟩
  ·have HR:=Hh (show r=!e by rw[HS.o,h0,zL1 FL.o,zL1 DL.o];simp);clear h0
   cases e
   all_goals
    go_enter Tryz.func255,Tryz.ntmps255;go_wp2;go_ret;exact⟨by rw[HR.o];rfl,HB.o⟩
  ·have HR:=Hh (show r=!e by rw[HS.o,zL1 h0.1,zL1 h0.2.1];simp);clear h0
   cases e
   all_goals
    go_enter Tryz.func255,Tryz.ntmps255;go_wp2;go_ret;exact⟨by rw[HR.o];rfl,HB.o⟩
 ·have z1:((n:Int)==0)=false:=by rw[zG1];omega
  have HN:=Hh (show (n==0)=false by rw[zG1];exact hn0);clear hn0
  rcases Stl.kinds k with ⟨h0,h1,h2,h3⟩ | ⟨h0,h1,h2,h3⟩ | ⟨h0,h1,h2,h3⟩ | ⟨h0,h1,h2,h3⟩
  ·have HR:=Hh (show r=false by rw[HS.o,zM1 h0];exact HN.o);clear h0;go_enter Tryz.func255,Tryz.ntmps255;go_wp2;go_ret;exact⟨by rw[HR.o];rfl,HB.o⟩
  ·have HR:=Hh (show r=(d.isEmpty&&!e) by rw[HS.o,h0,zL1 FD.o,zM1 rfl]);clear h0
   cases d with
   | nil =>
    cases e
    all_goals
     go_enter Tryz.func255,Tryz.ntmps255;go_wp2;go_ret;exact⟨by rw[HR.o];rfl,HB.o⟩
   | cons a t =>
    have hd:((a::t)==[])=false:=rfl;go_enter Tryz.func255,Tryz.ntmps255;go_wp2;go_ret;exact⟨by rw[HR.o];rfl,HB.o⟩
  ·have HR:=Hh (show r=false by rw[HS.o,h0,zL1 FL.o,zL1 DL.o,HN.o];simp);clear h0
   cases e
   all_goals
    go_enter Tryz.func255,Tryz.ntmps255;go_wp2;go_ret;exact⟨by rw[HR.o];rfl,HB.o⟩
  ·have HR:=Hh (show r=false by rw[HS.o,zL1 h0.1,zL1 h0.2.1,HN.o];simp);clear h0
   cases e
   all_goals
    go_enter Tryz.func255,Tryz.ntmps255;go_wp2;go_ret;exact⟨by rw[HR.o];rfl,HB.o⟩
end Go.Proofs.YtbmkaekimccdgaaGreatDoor
namespace Stl
open Go
def badByte (c:UInt8):Bool:=decide (c<33)||decide (126<c)
def badRune (r:Nat):Bool:=decide (r<33)||decide (126<r)
theorem qGx (c:UInt8):badByte c=badRune c.toNat:=by
 simp[badByte,badRune,UInt8.lt_iff_toNat_lt]
theorem qI2 (s:ByteArray)(i:Nat)(h:(s.get! i).toNat<128):Utf8.decode s i=((s.get! i).toNat,1):=by
 unfold Utf8.decode;simp only[Nat.add_zero];rw[zM1 h]
theorem decode_high (s:ByteArray)(i:Nat)(h:¬ (s.get! i).toNat<128):badRune (Utf8.decode s i).1=true:=by
 have k:∀ c:Nat,128≤c→badRune c=true:=fun c hc=>by simp[badRune];omega
 have e:badRune Utf8.runeError=true:=by decide
 unfold Utf8.decode;simp only[Nat.add_zero];rw[zL1 h];split
 ·split
  ·exact k _ (by assumption)
  ·exact e
 ·split
  ·split
   ·rename_i hc
    rw[zC,decide_eq_true_iff] at hc;exact k _ (by omega)
   ·exact e
  ·split
   ·split
    ·rename_i hc
     rw[zC,decide_eq_true_iff] at hc;exact k _ (by omega)
    ·exact e
   ·exact e
theorem qMs (l:List UInt8)(i:Nat)(h:i<l.length):(ByteArray.mk l.toArray).get! i=l[i]:=by
 simp[ByteArray.get!,h]
theorem qK5 (l:List UInt8):∀ (f pos:Nat),l.length≤pos+f→(0≤Lib.idxFuncFrom badRune true ⟨l.toArray⟩ f pos↔(l.drop pos).any badByte=true)
 | 0,pos,h=>by
  rw[zG (by omega)];simp[Lib.idxFuncFrom]
 | f+1,pos,h=>by
  unfold Lib.idxFuncFrom;have hz:(ByteArray.mk l.toArray).size=l.length:=by simp[ByteArray.size]
  rw[hz];by_cases hp:pos<l.length
  ·rw[zM1 hp,zF hp,List.any_cons,qGx,← qMs l pos hp];by_cases hl:((ByteArray.mk l.toArray).get! pos).toNat<128
   ·rw[qI2 _ _ hl];by_cases hb:badRune ((ByteArray.mk l.toArray).get! pos).toNat=true
    ·rw[zM1 hb,hb];simp
    ·rw[zL1 hb,qK5 l f (pos+1) (by omega)];simp only[Bool.not_eq_true] at hb;rw[hb];simp
   ·rw[zM1 (decode_high _ _ hl)];have:badRune ((ByteArray.mk l.toArray).get! pos).toNat=true:=by simp[badRune];omega
    rw[this];simp
  ·rw[zL1 hp,zG (by omega)];simp
theorem idx_link (l:List UInt8):decide (0≤Lib.idxFunc badRune true ⟨l.toArray⟩)=l.any badByte:=by
 rw[Bool.eq_iff_iff,decide_eq_true_iff];have hz:(ByteArray.mk l.toArray).size=l.length:=by simp[ByteArray.size]
 have:=qK5 l l.length 0 (by omega);unfold Lib.idxFunc;rw[hz,this];simp
end Stl
namespace Go.Proofs.YtbmkaekimccdgaaGreatDoor
open Go.RowKit
theorem qJf (r:Nat)(hr:r≤1114111)(w:World):Calls Tryz.prog 298 #[.int .i32 r] w fun e w'=>e=.returned (.bool (Stl.badRune r))∧w'=w:=by
 go_enter Tryz.func298,Tryz.ntmps298;by_cases h1:r<33
 ·have e:=Hh (show Stl.badRune r=true by simp[Stl.badRune,h1]);generalize Stl.badRune r=b at e;have i1:(r:Int)<33:=by omega
  clear h1;go_wp2;go_ret;exact⟨by rw[e.o];rfl,rfl⟩
 ·by_cases h2:126<r
  ·have e:=Hh (show Stl.badRune r=true by simp[Stl.badRune,h2]);generalize Stl.badRune r=b at e;have i1:¬ (r:Int)<33:=by omega
   have i2:(126:Int)<(r:Int):=by omega
   clear h1 h2;go_wp2;go_ret;exact⟨by rw[e.o];rfl,rfl⟩
  ·have e:=Hh (show Stl.badRune r=false by simp[Stl.badRune,h1,h2]);generalize Stl.badRune r=b at e;have i1:¬ (r:Int)<33:=by omega
   have i2:¬ (126:Int)<(r:Int):=by omega
   clear h1 h2;go_wp2;go_ret;exact⟨by rw[e.o];rfl,rfl⟩
theorem qDe (s:ByteArray)(w:World) :
  Calls Tryz.prog 330 #[.string s,.func (.func 298) #[] #[],.bool true] w fun e w'=>e=.returned (.int .i64 (Lib.idxFunc Stl.badRune true s))∧Below w.heap.size w w':=by
 go_enter Tryz.func330,Tryz.ntmps330;go_wp2;go_loopg [] s.size (fun gf wx=>∃ pos:Nat,wx.heap[w.heap.size]?=some (.stringIter s pos)∧Below w.heap.size w wx∧Lib.idxFuncFrom Stl.badRune true s gf pos=Lib.idxFunc Stl.badRune true s∧s.size≤pos+gf)
 case atStart=>exact⟨0,World.iter_heap w s 0,(zB _ w).alloc (zo _) _,rfl,by omega⟩
 case round =>
  obtain⟨pos,hit,hbw,hleft,hfu⟩:=hrel;by_cases hps:pos<s.size
  ·obtain⟨g',rfl⟩:∃ g',gk=g'+1:=⟨gk-1,by omega⟩;have hnx:∀ ty,(Instr.next (.pointer (some ⟨w.heap.size,0,none⟩)) true ty).run Tryz.prog wr=_:=fun ty=>Lib.run_next_any_at wr w.heap.size s pos ty hit hps
   have hwd:=Lib.width_pos s pos;obtain⟨R,hR⟩:∃ R,(Utf8.decode s pos).1=R:=⟨_,rfl⟩;obtain⟨K,hK⟩:∃ K,(Utf8.decode s pos).2=K:=⟨_,rfl⟩;simp only[Lib.idxFuncFrom,hps,if_true,hR,hK] at hleft;rw[hR,hK] at hnx;rw[hK] at hwd;have hit2:=Lib.iterAt_heap wr w.heap.size s pos (pos+K) hit;have hbw2:=Lib.below_iterAt hbw (k:=w.heap.size) (zo _) s (pos+K);obtain⟨W,hWd⟩:∃ W,wr.iterAt w.heap.size s (pos+K)=W:=⟨_,rfl⟩;rw[hWd] at hnx hit2 hbw2;have hltW:w.heap.size<W.heap.size:=(Array.getElem?_eq_some_iff.1 hit2).1;have cS:=qJf R (by rw[← hR];exact Lib.rune_le s pos) W
   cases hsp:Stl.badRune R<;>rw[hsp] at cS<;>simp only[hsp,if_true,Bool.false_eq_true,if_false] at hleft
   ·go_wp2_with (go_at_call 298;refine cS.mono ?_;rintro e W' ⟨rfl,rfl⟩);go_roundg g'
    case measure=>omega
    case rel=>exact⟨pos+K,hit2,hbw2,hleft,by omega⟩
   ·go_wp2_with (go_at_call 298;refine cS.mono ?_;rintro e W' ⟨rfl,rfl⟩);go_ret;exact⟨by rw[← hleft]<;>rfl,hbw2⟩
  ·have hnx:∀ ty,(Instr.next (.pointer (some ⟨w.heap.size,0,none⟩)) true ty).run Tryz.prog wr=_:=fun ty=>Lib.run_next_end_at wr w.heap.size s pos ty hit hps
   rw[Lib.idxFuncFrom_end Stl.badRune true s gk pos hps] at hleft;go_wp2;go_ret;exact⟨by rw[← hleft]<;>rfl,hbw⟩
theorem qLf (l:List UInt8)(w:World):Calls Tryz.prog 256 #[.string ⟨l.toArray⟩] w fun e w'=>e=.returned (.bool (!l.any Stl.badByte))∧Below w.heap.size w w':=by
 have hx:=Stl.idx_link l;have hi:=qDe ⟨l.toArray⟩ w;generalize Lib.idxFunc Stl.badRune true ⟨l.toArray⟩=i at hx hi;have HX:=Hh hx;clear hx;have c1:Calls Tryz.prog 317 #[.string ⟨l.toArray⟩,.func (.func 298) #[] #[]] w fun e w'=>e=.returned (.int .i64 i)∧Below w.heap.size w w':=by
  go_enter Tryz.func317,Tryz.ntmps317;go_wp2_with fail;refine hi.mono ?_;rintro e w' ⟨rfl,hb⟩;go_wp2;go_ret;exact⟨rfl,hb⟩
 have c2:Calls Tryz.prog 297 #[.string ⟨l.toArray⟩,.func (.func 298) #[] #[]] w fun e w'=>e=.returned (.bool (decide (0≤i)))∧Below w.heap.size w w':=by
  go_enter Tryz.func297,Tryz.ntmps297;go_wp2_with fail;refine c1.mono ?_;rintro e w' ⟨rfl,hb⟩;go_wp2;go_ret;exact⟨rfl,hb⟩
 clear c1 hi;rw[HX.o] at c2;generalize l.any Stl.badByte=b at c2;clear HX;go_enter Tryz.func256,Tryz.ntmps256;go_wp2_with fail;refine c2.mono ?_;rintro e w' ⟨rfl,hb⟩;go_wp2;go_ret;exact⟨rfl,hb⟩
end Go.Proofs.YtbmkaekimccdgaaGreatDoor
