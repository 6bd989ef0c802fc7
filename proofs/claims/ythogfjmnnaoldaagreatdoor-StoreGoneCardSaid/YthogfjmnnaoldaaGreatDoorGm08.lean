/- Texts of this claim, merged: Nodes, Errs, Shape, Link. -/
import Derived.Deep.LoopGhost
import Derived.LaidEql
import Derived.RowKitTokens
import Derived.Stop.Asserts
import Derived.Test.YthogfjmnnaoldaaGreatDoorGm07
set_option maxHeartbeats 16000000
set_option maxRecDepth 1000000
set_option linter.all false
namespace Go.Proofs.YthogfjmnnaoldaaGreatDoor
open Go.RowKit Go.Maps Go.Sort Go.Shelf
mutual
def NodeAt (w:World):Stl.Nd→List Value→Prop
 | .mk k d e ks,vs=>∃ A c,vs=[.string ⟨k.toArray⟩,.string ⟨d.toArray⟩,.bool e,.slice A ks.length c]∧(ks.length≤c∧ks.length≤1759218604441∧k.length≤140737488355328∧d.length≤140737488355328)∧(ks≠[]→∃ b off,A=some ⟨b,off,none⟩∧b<w.heap.size∧KidsAt w b off ks)
def KidsAt (w:World) (b:Nat):Nat→List (List UInt8×Stl.Nd)→Prop
 | _,[]=>True
 | off,(name,x)::r=>(w.cell? ⟨b,off,none⟩=some (.string ⟨name.toArray⟩)∧name.length≤140737488355328) ∧
   (∃ v0 v1 v2 v3,w.cell? ⟨b,off+1,none⟩=some v0∧w.cell? ⟨b,off+2,none⟩=some v1∧w.cell? ⟨b,off+3,none⟩=some v2∧w.cell? ⟨b,off+4,none⟩=some v3∧NodeAt w x [v0,v1,v2,v3])∧KidsAt w b (off+5) r
end
mutual
theorem NodeAt.later {w w':World} (hb:Below w.heap.size w w'):∀ (n:Stl.Nd) (vs:List Value),NodeAt w n vs→NodeAt w' n vs
 | .mk k d e ks,vs,h=>by
  unfold NodeAt at h ⊢
  obtain ⟨A,c,h1,h2,h3⟩:=h
  refine ⟨A,c,h1,h2,fun hn=>?_⟩
  obtain ⟨b,off,h4,h5,h6⟩:=h3 hn
  exact ⟨b,off,h4,zv h5 hb.size,KidsAt.later hb h5 ks off h6⟩
theorem KidsAt.later {w w':World} (hb:Below w.heap.size w w') {b:Nat} (hlt:b<w.heap.size):∀ (ks:List (List UInt8×Stl.Nd)) (off:Nat),KidsAt w b off ks→KidsAt w' b off ks
 | [],_,_=>by unfold KidsAt;trivial
 | (name,x)::r,off,h=>by
  unfold KidsAt at h ⊢
  obtain ⟨h1,⟨v0,v1,v2,v3,c0,c1,c2,c3,h2⟩,h3⟩:=h
  have go:∀ (o:Nat) (v:Value),w.cell? ⟨b,o,none⟩=some v→w'.cell? ⟨b,o,none⟩=some v:=fun o v hv=>(hb.cell (p:=⟨b,o,none⟩) hlt).trans hv
  exact ⟨⟨go _ _ h1.1,h1.2⟩,⟨v0,v1,v2,v3,go _ _ c0,go _ _ c1,go _ _ c2,go _ _ c3,NodeAt.later hb x _ h2⟩,KidsAt.later hb hlt r (off+5) h3⟩
end
theorem KidsAt.at {w:World} {b:Nat}:∀ (ks:List (List UInt8×Stl.Nd)) (off j:Nat) (name:List UInt8) (x:Stl.Nd),KidsAt w b off ks→ks[j]?=some (name,x) →
  (w.cell? ⟨b,off+j*5,none⟩=some (.string ⟨name.toArray⟩)∧name.length≤140737488355328)∧∃ v0 v1 v2 v3,w.cell? ⟨b,off+j*5+1,none⟩=some v0∧w.cell? ⟨b,off+j*5+2,none⟩=some v1∧w.cell? ⟨b,off+j*5+3,none⟩=some v2∧w.cell? ⟨b,off+j*5+4,none⟩=some v3∧NodeAt w x [v0,v1,v2,v3]
 | [],_,_,_,_,_,h=>by simp at h
 | (name0,x0)::r,off,0,name,x,h,hj=>by
  unfold KidsAt at h
  simp only [List.getElem?_cons_zero,zC1,Prod.mk.injEq] at hj
  obtain ⟨rfl,rfl⟩:=hj
  exact ⟨h.1,h.2.1⟩
 | (name0,x0)::r,off,j+1,name,x,h,hj=>by
  unfold KidsAt at h
  simp only [List.getElem?_cons_succ] at hj
  have:=KidsAt.at r (off+5) j name x h.2.2 hj
  rw [show off+5+j*5=off+(j+1)*5 by omega] at this
  exact this
end Go.Proofs.YthogfjmnnaoldaaGreatDoor
namespace Go.Proofs.YthogfjmnnaoldaaGreatDoor
open Go.RowKit Go.Extern.Stop Go.Stop Go.Extern
def qCz:Nat→Nat
 | 1=>2
 | 2=>0
 | 3=>1
 | 4=>14
 | 5=>5
 | 6=>4
 | 7=>6
 | 8=>3
 | 9=>11
 | 10=>12
 | 11=>9
 | 12=>7
 | _=>7
structure Errs (w:World) (p:Nat→Addr):Prop where
 at_:∀ c,1≤c→c≤13→errAt w (qCz c) (p c)
 row:∀ c,1≤c→c≤13→∃ cs ts,w.heap[(p c).block]?=some (.cells cs ts (0,0))
 ne:∀ c d,1≤c→c<d→d≤13→qCz c≠qCz d→p c≠p d
 ety:w.cell? ⟨8,0,none⟩=some (.iface 239 (.agg #[.pointer (some ⟨21,27,none⟩)]))∧8<w.heap.size
theorem Errs.later {w w':World} {p:Nat→Addr} (h:Errs w p) (hb:Below w.heap.size w w'):Errs w' p:=by
 refine ⟨fun c h1 h2=>(h.at_ c h1 h2).later hb,fun c h1 h2=>?_,h.ne,(hb.cell (p:=⟨8,0,none⟩) h.ety.2).trans h.ety.1,zv h.ety.2 hb.size⟩
 obtain ⟨cs,ts,hc⟩:=h.row c h1 h2
 exact ⟨cs,ts,(hb.block _ (zO1 hc)).trans hc⟩
theorem Errs.apart {w:World} {p:Nat→Addr} (h:Errs w p) {c d:Nat} (c1:1≤c) (c2:c≤13) (d1:1≤d) (d2:d≤13) (hg:qCz c≠qCz d):p c≠p d:=by
 have hn:c≠d:=fun e=>hg (by rw [e])
 rcases zw c d with hl | hl
 ·exact h.ne c d c1 hl d2 hg
 ·exact fun e=>h.ne d c d1 (by omega) c2 hg.symm e.symm
def qAN (p:Nat→Addr) (c:Nat):Value:=if c=0 then .nilIface else .iface 371 (.pointer (some (p c)))
theorem qJD (t:Addr) (w:World):(ReflectliteValue.unpack (.iface 115 (.pointer (some t)))).run Tryz.prog w
  = .ok (.agg #[.pointer (some ⟨21,115,none⟩),.pointer (some ⟨w.heap.size,0,none⟩),.int .u64 150]) (w.alloc (.cells #[.pointer (some t)] 115)):=by kernel_rfl
theorem qOh (a:Addr) (w:World):(ReflectliteValue.methodAny (ReflectliteValue.valueError "reflectlite.Value.Type" 0) (fun t _ _ _=>ReflectliteType.toType t) #[.agg #[.pointer (some ⟨21,115,none⟩),.pointer (some a),.int .u64 150]]).run Tryz.prog w
  = .ok (.iface 239 (.agg #[.pointer (some ⟨21,115,none⟩)])) w:=by kernel_rfl
theorem qI6 (h:Value) (w:World):(Go.method 513 239 (.agg #[h]) "Kind").run Tryz.prog w=.ok (329,h) w:=by kernel_rfl
theorem qOG (w:World):((ReflectliteType.abiMethod fun t=>(fun a:Nat=>Value.int IntKind.u8 (a:Int)) <$> Rtype.kind t) #[.pointer (some ⟨21,115,none⟩)]).run Tryz.prog w=.ok (.int .u8 22) w:=by kernel_rfl
theorem qQd (w:World):((ReflectliteType.abiMethod fun t=>(fun a:Nat=>Value.int IntKind.u8 (a:Int)) <$> Rtype.kind t) #[.pointer (some ⟨21,113,none⟩)]).run Tryz.prog w=.ok (.int .u8 22) w:=by kernel_rfl
theorem qQ1 (z:Sem Value) (f:TypeId→Addr→Nat→Nat→Sem Value) (v:Value) :
  ReflectliteValue.method z f #[v]=(do match ← ReflectliteValue.parts v with | none=>z | some (t,a,fl)=>f t a fl (fl%32)):=rfl
theorem qMF (a:Addr) (w:World):(ReflectliteValue.parts (.agg #[.pointer (some ⟨21,115,none⟩),.pointer (some a),.int .u64 150])).run Tryz.prog w=.ok (some (115,a,150)) w:=by kernel_rfl
theorem qNK (a p:Addr) (W:World) (ha:W.cell? a=some (.pointer (some p))) :
  (ReflectliteValue.method (ReflectliteValue.valueError "reflectlite.Value.IsNil" 0) ReflectliteValue.isNil #[.agg #[.pointer (some ⟨21,115,none⟩),.pointer (some a),.int .u64 150]]).run Tryz.prog W=.ok (.bool false) W:=by
 rw [qQ1]
 simp only [Sem.run_bind,qMF,Result.andThen]
 simp [ReflectliteValue.isNil,loadVar,isAgg,underlying,Tryz.underlying115,ha,Result.andThen]
theorem qIr (h:Value) (w:World):(Go.method 513 239 (.agg #[h]) "Elem").run Tryz.prog w=.ok (342,.agg #[h]) w:=by kernel_rfl
theorem qEa (h:Value) (w:World):(Go.method 513 239 (.agg #[h]) "Implements").run Tryz.prog w=.ok (343,.agg #[h]) w:=by kernel_rfl
theorem qDu (h:Value) (w:World):(Go.method 513 239 (.agg #[h]) "AssignableTo").run Tryz.prog w=.ok (340,.agg #[h]) w:=by kernel_rfl
theorem qON (w:World):(ReflectliteType.method ReflectliteType.elem #[.agg #[.pointer (some ⟨21,115,none⟩)]]).run Tryz.prog w=.ok (.iface 239 (.agg #[.pointer (some ⟨21,113,none⟩)])) w:=by kernel_rfl
theorem qHf (w:World):(ReflectliteType.relation "Implements" ReflectliteType.implements_ #[.agg #[.pointer (some ⟨21,113,none⟩)],.iface 239 (.agg #[.pointer (some ⟨21,27,none⟩)])]).run Tryz.prog w=.ok (.bool true) w:=by kernel_rfl
theorem qNs (v:Value) (w:World):(ReflectliteType.typeOf #[.iface 371 v]).run Tryz.prog w=.ok (.iface 239 (.agg #[.pointer (some ⟨21,371,none⟩)])) w:=by kernel_rfl
theorem qHJ (w:World):(ReflectliteType.relation "AssignableTo" ReflectliteType.assignableTo #[.agg #[.pointer (some ⟨21,371,none⟩)],.iface 239 (.agg #[.pointer (some ⟨21,113,none⟩)])]).run Tryz.prog w=.ok (.bool false) w:=by kernel_rfl
theorem qRe (v:Value) (xT:TypeId) (w:World):(Instr.typeAssert (.iface 371 v) xT 244 true).run Tryz.prog w=.ok (.tuple #[.nilIface,.bool false]) w:=run_typeAssert_lacksB Tryz.underlying244 (by kernel_rfl) (by kernel_rfl) v xT w
theorem qNd (v:Value) (xT:TypeId) (w:World):(Instr.typeAssert (.iface 371 v) xT 247 true).run Tryz.prog w=.ok (.tuple #[.nilIface,.bool false]) w:=run_typeAssert_lacksB Tryz.underlying247 (by kernel_rfl) (by kernel_rfl) v xT w
theorem qKT (v:Value) (xT:TypeId) (w:World):(Instr.typeAssert (.iface 371 v) xT 249 true).run Tryz.prog w=.ok (.tuple #[.nilIface,.bool false]) w:=run_typeAssert_lacksB Tryz.underlying249 (by kernel_rfl) (by kernel_rfl) v xT w
theorem qQ9 (e t:Addr) (w:World) (hg:w.cell? ⟨8,0,none⟩=some (.iface 239 (.agg #[.pointer (some ⟨21,27,none⟩)]))) :
  Calls Tryz.prog 54 #[.iface 371 (.pointer (some e)),.iface 115 (.pointer (some t))] w fun ev w'=>ev=.returned (.bool false)∧Below w.heap.size w w':=by
 have h6:=@run_callFunc_extern Tryz.prog 94 _ (fun args=>ReflectliteValue.unpack (args.getD 0 (.tuple #[]))) Tryz.func94 (by kernel_rfl) (by kernel_rfl) (by kernel_rfl) (by kernel_rfl)
 have h7:=@run_callFunc_extern Tryz.prog 95 _ (ReflectliteValue.methodAny (ReflectliteValue.valueError "reflectlite.Value.Type" 0) (fun t _ _ _=>ReflectliteType.toType t)) Tryz.func95 (by kernel_rfl) (by kernel_rfl) (by kernel_rfl) (by kernel_rfl)
 have h8:=@run_callFunc_extern Tryz.prog 96 _ (ReflectliteValue.method (ReflectliteValue.valueError "reflectlite.Value.IsNil" 0) ReflectliteValue.isNil) Tryz.func96 (by kernel_rfl) (by kernel_rfl) (by kernel_rfl) (by kernel_rfl)
 have h27:=@run_callFunc_extern Tryz.prog 329 _ (ReflectliteType.abiMethod fun t=>do pure (.int .u8 (← Rtype.kind t))) Tryz.func329 (by kernel_rfl) (by kernel_rfl) (by kernel_rfl) (by kernel_rfl)
 have h37:=@run_callFunc_extern Tryz.prog 342 _ (ReflectliteType.method ReflectliteType.elem) Tryz.func342 (by kernel_rfl) (by kernel_rfl) (by kernel_rfl) (by kernel_rfl)
 have h38:=@run_callFunc_extern Tryz.prog 343 _ (ReflectliteType.relation "Implements" ReflectliteType.implements_) Tryz.func343 (by kernel_rfl) (by kernel_rfl) (by kernel_rfl) (by kernel_rfl)
 have h10:=@run_callFunc_extern Tryz.prog 150 _ ReflectliteType.typeOf Tryz.func150 (by kernel_rfl) (by kernel_rfl) (by kernel_rfl) (by kernel_rfl)
 have h35:=@run_callFunc_extern Tryz.prog 340 _ (ReflectliteType.relation "AssignableTo" ReflectliteType.assignableTo) Tryz.func340 (by kernel_rfl) (by kernel_rfl) (by kernel_rfl) (by kernel_rfl)
 have tO:=qNs
 have mA:=qDu
 have a25:=qHJ
 have f6:=qJD
 have f7:=qOh
 have mK:=qI6
 have mE:=qIr
 have mI:=qEa
 have k27:=qOG
 have k25:=qQd
 have e27:=qON
 have i25:=qHf
 have nA:=qRe
 have uE:=qNd
 have vE:=qKT
 have n8:=qNK ⟨w.heap.size,0,none⟩ t ((w.alloc (.cells #[.pointer (some t)] 115)).alloc (.cells #[.pointer (some ⟨21,115,none⟩),.pointer (some ⟨w.heap.size,0,none⟩),.int .u64 150] 167)) (by simp)
 have hlt:8<w.heap.size:=by
  rcases zw 8 w.heap.size with h | h
  ·exact h
  ·simp [World.cell?,Array.getElem?_eq_none h] at hg
 have hg2:((w.alloc (.cells #[.pointer (some t)] 115)).alloc (.cells #[.pointer (some ⟨21,115,none⟩),.pointer (some ⟨w.heap.size,0,none⟩),.int .u64 150] 167)).cell? ⟨8,0,none⟩=some (.iface 239 (.agg #[.pointer (some ⟨21,27,none⟩)])):=by
  rw [World.cell?_alloc_lt _ _ ⟨8,0,none⟩ (by simp;omega),World.cell?_alloc_lt _ _ ⟨8,0,none⟩ hlt];exact hg
 clear hg hlt
 go_enter Tryz.func54,Tryz.ntmps54
 go_wp2
 refine wp_loop_rounds 1 ?_
 rw [rounds_succ]
 go_wp2
 go_ret
 exact ⟨rfl,((((zC _ w).alloc (zr _) _).alloc (by simp) _).alloc (by simp;omega) _)⟩
end Go.Proofs.YthogfjmnnaoldaaGreatDoor
namespace Stl
def shapeB (k d:Bytes) (e:Bool) (n:Nat):Bool :=
 if k=kFile then n==0 else if k=kDir then d.isEmpty&&!e else !e&&n==0
theorem kinds (k:Bytes):(k=kFile∧(k==[102,105,108,101])=true∧(k==[100,105,114])=false∧(k==[108,105,110,107])=false)∨(k=kDir∧(k==[102,105,108,101])=false∧(k==[100,105,114])=true∧(k==[108,105,110,107])=false)
  ∨ (k=kLink∧(k==[102,105,108,101])=false∧(k==[100,105,114])=false∧(k==[108,105,110,107])=true)∨((k≠kFile∧k≠kDir∧k≠kLink)∧(k==[102,105,108,101])=false∧(k==[100,105,114])=false∧(k==[108,105,110,107])=false):=by
 by_cases h1:k=kFile
 ·subst h1;exact .inl (by decide)
 ·by_cases h2:k=kDir
  ·subst h2;exact .inr (.inl (by decide))
  ·by_cases h3:k=kLink
   ·subst h3;exact .inr (.inr (.inl (by decide)))
   ·exact .inr (.inr (.inr ⟨⟨h1,h2,h3⟩,by simpa [kFile] using h1,by simpa [kDir] using h2,by simpa [kLink] using h3⟩))
end Stl
namespace Go.Proofs.YthogfjmnnaoldaaGreatDoor
open Go.RowKit
theorem qF1 (k d:List UInt8) (e:Bool) (A:Option Addr) (n c:Nat) (hn:n≤9223372036854775807) (w:World) :
  Calls Tryz.prog 267 #[.agg #[.string ⟨k.toArray⟩,.string ⟨d.toArray⟩,.bool e,.slice A n c]] w fun ev w'=>ev=.returned (.bool (Stl.shapeB k d e n))∧Below w.heap.size w w':=by
 have hb:Below w.heap.size w (w.alloc (.cells #[.string ⟨k.toArray⟩,.string ⟨d.toArray⟩,.bool e,.slice A n c] 45)):=(zC _ w).alloc (zr _) _
 have HB:=Hh hb
 clear hb
 have HS:Hid (Stl.shapeB k d e n=if k=Stl.kFile then n==0 else if k=Stl.kDir then d.isEmpty&&!e else !e&&n==0):=Hh rfl
 generalize Stl.shapeB k d e n=r at HS
 have fd:Stl.kDir≠Stl.kFile:=by decide
 have fl:Stl.kLink≠Stl.kFile:=by decide
 have dl:Stl.kLink≠Stl.kDir:=by decide
 have FD:=Hh fd
 have FL:=Hh fl
 have DL:=Hh dl
 clear fd fl dl
 by_cases hn0:n=0
 ·subst hn0
  rcases Stl.kinds k with ⟨h0,h1,h2,h3⟩ | ⟨h0,h1,h2,h3⟩ | ⟨h0,h1,h2,h3⟩ | ⟨h0,h1,h2,h3⟩
  ·have HR:=Hh (show r=true by rw [HS.out,zN1 h0];rfl)
   clear h0
   go_enter Tryz.func267,Tryz.ntmps267
   go_wp2
   go_ret
   exact ⟨by rw [HR.out];rfl,HB.out⟩
  ·have HR:=Hh (show r=(d.isEmpty&&!e) by rw [HS.out,h0,zM1 FD.out,zN1 rfl])
   clear h0
   cases d with
   | nil =>
    cases e
    all_goals
     go_enter Tryz.func267,Tryz.ntmps267
     go_wp2
     go_ret
     exact ⟨by rw [HR.out];rfl,HB.out⟩
   | cons a t =>
    have hd:((a::t)==[])=false:=rfl
    go_enter Tryz.func267,Tryz.ntmps267
    go_wp2
    go_ret
    exact ⟨by rw [HR.out];rfl,HB.out⟩
  ·have HR:=Hh (show r=!e by rw [HS.out,h0,zM1 FL.out,zM1 DL.out];simp)
   clear h0
   cases e
   all_goals
    go_enter Tryz.func267,Tryz.ntmps267
    go_wp2
    go_ret
    exact ⟨by rw [HR.out];rfl,HB.out⟩
  ·have HR:=Hh (show r=!e by rw [HS.out,zM1 h0.1,zM1 h0.2.1];simp)
   clear h0
   cases e
   all_goals
    go_enter Tryz.func267,Tryz.ntmps267
    go_wp2
    go_ret
    exact ⟨by rw [HR.out];rfl,HB.out⟩
 ·have z1:((n:Int)==0)=false:=by rw [zH1];omega
  have HN:=Hh (show (n==0)=false by rw [zH1];exact hn0)
  clear hn0
  rcases Stl.kinds k with ⟨h0,h1,h2,h3⟩ | ⟨h0,h1,h2,h3⟩ | ⟨h0,h1,h2,h3⟩ | ⟨h0,h1,h2,h3⟩
  ·have HR:=Hh (show r=false by rw [HS.out,zN1 h0];exact HN.out)
   clear h0
   go_enter Tryz.func267,Tryz.ntmps267
   go_wp2
   go_ret
   exact ⟨by rw [HR.out];rfl,HB.out⟩
  ·have HR:=Hh (show r=(d.isEmpty&&!e) by rw [HS.out,h0,zM1 FD.out,zN1 rfl])
   clear h0
   cases d with
   | nil =>
    cases e
    all_goals
     go_enter Tryz.func267,Tryz.ntmps267
     go_wp2
     go_ret
     exact ⟨by rw [HR.out];rfl,HB.out⟩
   | cons a t =>
    have hd:((a::t)==[])=false:=rfl
    go_enter Tryz.func267,Tryz.ntmps267
    go_wp2
    go_ret
    exact ⟨by rw [HR.out];rfl,HB.out⟩
  ·have HR:=Hh (show r=false by rw [HS.out,h0,zM1 FL.out,zM1 DL.out,HN.out];simp)
   clear h0
   cases e
   all_goals
    go_enter Tryz.func267,Tryz.ntmps267
    go_wp2
    go_ret
    exact ⟨by rw [HR.out];rfl,HB.out⟩
  ·have HR:=Hh (show r=false by rw [HS.out,zM1 h0.1,zM1 h0.2.1,HN.out];simp)
   clear h0
   cases e
   all_goals
    go_enter Tryz.func267,Tryz.ntmps267
    go_wp2
    go_ret
    exact ⟨by rw [HR.out];rfl,HB.out⟩
end Go.Proofs.YthogfjmnnaoldaaGreatDoor
namespace Stl
open Go
def badByte (c:UInt8):Bool:=decide (c<33)||decide (126<c)
def badRune (r:Nat):Bool:=decide (r<33)||decide (126<r)
theorem qJj (c:UInt8):badByte c=badRune c.toNat:=by
 simp [badByte,badRune,UInt8.lt_iff_toNat_lt]
theorem qLT (s:ByteArray) (i:Nat) (h:(s.get! i).toNat<128):Utf8.decode s i=((s.get! i).toNat,1):=by
 unfold Utf8.decode
 simp only [Nat.add_zero]
 rw [zN1 h]
theorem decode_high (s:ByteArray) (i:Nat) (h:¬ (s.get! i).toNat<128):badRune (Utf8.decode s i).1=true:=by
 have k:∀ c:Nat,128≤c→badRune c=true:=fun c hc=>by simp [badRune];omega
 have e:badRune Utf8.runeError=true:=by decide
 unfold Utf8.decode
 simp only [Nat.add_zero]
 rw [zM1 h]
 split
 ·split
  ·exact k _ (by assumption)
  ·exact e
 ·split
  ·split
   ·rename_i hc
    rw [zD,decide_eq_true_iff] at hc
    exact k _ (by omega)
   ·exact e
  ·split
   ·split
    ·rename_i hc
     rw [zD,decide_eq_true_iff] at hc
     exact k _ (by omega)
    ·exact e
   ·exact e
theorem qN3 (l:List UInt8) (i:Nat) (h:i<l.length):(ByteArray.mk l.toArray).get! i=l[i]:=by
 simp [ByteArray.get!,h]
theorem qL8 (l:List UInt8):∀ (f pos:Nat),l.length≤pos+f→(0≤Lib.idxFuncFrom badRune true ⟨l.toArray⟩ f pos↔(l.drop pos).any badByte=true)
 | 0,pos,h=>by
  rw [zH (by omega)]
  simp [Lib.idxFuncFrom]
 | f+1,pos,h=>by
  unfold Lib.idxFuncFrom
  have hz:(ByteArray.mk l.toArray).size=l.length:=by simp [ByteArray.size]
  rw [hz]
  by_cases hp:pos<l.length
  ·rw [zN1 hp,zG hp,List.any_cons,qJj,← qN3 l pos hp]
   by_cases hl:((ByteArray.mk l.toArray).get! pos).toNat<128
   ·rw [qLT _ _ hl]
    by_cases hb:badRune ((ByteArray.mk l.toArray).get! pos).toNat=true
    ·rw [zN1 hb,hb]
     simp
    ·rw [zM1 hb,qL8 l f (pos+1) (by omega)]
     simp only [Bool.not_eq_true] at hb
     rw [hb]
     simp
   ·rw [zN1 (decode_high _ _ hl)]
    have:badRune ((ByteArray.mk l.toArray).get! pos).toNat=true:=by simp [badRune];omega
    rw [this]
    simp
  ·rw [zM1 hp,zH (by omega)]
   simp
theorem idx_link (l:List UInt8):decide (0≤Lib.idxFunc badRune true ⟨l.toArray⟩)=l.any badByte:=by
 rw [Bool.eq_iff_iff,decide_eq_true_iff]
 have hz:(ByteArray.mk l.toArray).size=l.length:=by simp [ByteArray.size]
 have:=qL8 l l.length 0 (by omega)
 unfold Lib.idxFunc
 rw [hz,this]
 simp
end Stl
namespace Go.Proofs.YthogfjmnnaoldaaGreatDoor
open Go.RowKit
theorem qMD (r:Nat) (hr:r≤1114111) (w:World):Calls Tryz.prog 291 #[.int .i32 r] w fun e w'=>e=.returned (.bool (Stl.badRune r))∧w'=w:=by
 go_enter Tryz.func291,Tryz.ntmps291
 by_cases h1:r<33
 ·have e:=Hh (show Stl.badRune r=true by simp [Stl.badRune,h1])
  generalize Stl.badRune r=b at e
  have i1:(r:Int)<33:=by omega
  clear h1
  go_wp2
  go_ret
  exact ⟨by rw [e.out];rfl,rfl⟩
 ·by_cases h2:126<r
  ·have e:=Hh (show Stl.badRune r=true by simp [Stl.badRune,h2])
   generalize Stl.badRune r=b at e
   have i1:¬ (r:Int)<33:=by omega
   have i2:(126:Int)<(r:Int):=by omega
   clear h1 h2
   go_wp2
   go_ret
   exact ⟨by rw [e.out];rfl,rfl⟩
  ·have e:=Hh (show Stl.badRune r=false by simp [Stl.badRune,h1,h2])
   generalize Stl.badRune r=b at e
   have i1:¬ (r:Int)<33:=by omega
   have i2:¬ (126:Int)<(r:Int):=by omega
   clear h1 h2
   go_wp2
   go_ret
   exact ⟨by rw [e.out];rfl,rfl⟩
theorem qGn (s:ByteArray) (w:World) :
  Calls Tryz.prog 313 #[.string s,.func (.func 291) #[] #[],.bool true] w fun e w'=>e=.returned (.int .i64 (Lib.idxFunc Stl.badRune true s))∧Below w.heap.size w w':=by
 go_enter Tryz.func313,Tryz.ntmps313
 go_wp2
 go_loopg [] s.size (fun gf wx=>∃ pos:Nat,wx.heap[w.heap.size]?=some (.stringIter s pos)∧Below w.heap.size w wx∧Lib.idxFuncFrom Stl.badRune true s gf pos=Lib.idxFunc Stl.badRune true s∧s.size≤pos+gf)
 case atStart=>exact ⟨0,World.iter_heap w s 0,(zC _ w).alloc (zr _) _,rfl,by omega⟩
 case round =>
  obtain ⟨pos,hit,hbw,hleft,hfu⟩:=hrel
  by_cases hps:pos<s.size
  ·obtain ⟨g',rfl⟩:∃ g',gk=g'+1:=⟨gk-1,by omega⟩
   have hnx:∀ ty,(Instr.next (.pointer (some ⟨w.heap.size,0,none⟩)) true ty).run Tryz.prog wr=_:=fun ty=>Lib.run_next_any_at wr w.heap.size s pos ty hit hps
   have hwd:=Lib.width_pos s pos
   obtain ⟨R,hR⟩:∃ R,(Utf8.decode s pos).1=R:=⟨_,rfl⟩
   obtain ⟨K,hK⟩:∃ K,(Utf8.decode s pos).2=K:=⟨_,rfl⟩
   simp only [Lib.idxFuncFrom,hps,if_true,hR,hK] at hleft
   rw [hR,hK] at hnx
   rw [hK] at hwd
   have hit2:=Lib.iterAt_heap wr w.heap.size s pos (pos+K) hit
   have hbw2:=Lib.below_iterAt hbw (k:=w.heap.size) (zr _) s (pos+K)
   obtain ⟨W,hWd⟩:∃ W,wr.iterAt w.heap.size s (pos+K)=W:=⟨_,rfl⟩
   rw [hWd] at hnx hit2 hbw2
   have hltW:w.heap.size<W.heap.size:=(Array.getElem?_eq_some_iff.1 hit2).1
   have cS:=qMD R (by rw [← hR];exact Lib.rune_le s pos) W
   cases hsp:Stl.badRune R<;>rw [hsp] at cS<;>simp only [hsp,if_true,Bool.false_eq_true,if_false] at hleft
   ·go_wp2_with (go_at_call 291;refine cS.mono ?_;rintro e W' ⟨rfl,rfl⟩)
    go_roundg g'
    case measure=>omega
    case rel=>exact ⟨pos+K,hit2,hbw2,hleft,by omega⟩
   ·go_wp2_with (go_at_call 291;refine cS.mono ?_;rintro e W' ⟨rfl,rfl⟩)
    go_ret
    exact ⟨by rw [← hleft]<;>rfl,hbw2⟩
  ·have hnx:∀ ty,(Instr.next (.pointer (some ⟨w.heap.size,0,none⟩)) true ty).run Tryz.prog wr=_:=fun ty=>Lib.run_next_end_at wr w.heap.size s pos ty hit hps
   rw [Lib.idxFuncFrom_end Stl.badRune true s gk pos hps] at hleft
   go_wp2
   go_ret
   exact ⟨by rw [← hleft]<;>rfl,hbw⟩
theorem qOY (l:List UInt8) (w:World):Calls Tryz.prog 268 #[.string ⟨l.toArray⟩] w fun e w'=>e=.returned (.bool (!l.any Stl.badByte))∧Below w.heap.size w w':=by
 have hx:=Stl.idx_link l
 have hi:=qGn ⟨l.toArray⟩ w
 generalize Lib.idxFunc Stl.badRune true ⟨l.toArray⟩=i at hx hi
 have HX:=Hh hx
 clear hx
 have c1:Calls Tryz.prog 308 #[.string ⟨l.toArray⟩,.func (.func 291) #[] #[]] w fun e w'=>e=.returned (.int .i64 i)∧Below w.heap.size w w':=by
  go_enter Tryz.func308,Tryz.ntmps308
  go_wp2_with fail
  refine hi.mono ?_
  rintro e w' ⟨rfl,hb⟩
  go_wp2
  go_ret
  exact ⟨rfl,hb⟩
 have c2:Calls Tryz.prog 290 #[.string ⟨l.toArray⟩,.func (.func 291) #[] #[]] w fun e w'=>e=.returned (.bool (decide (0≤i)))∧Below w.heap.size w w':=by
  go_enter Tryz.func290,Tryz.ntmps290
  go_wp2_with fail
  refine c1.mono ?_
  rintro e w' ⟨rfl,hb⟩
  go_wp2
  go_ret
  exact ⟨rfl,hb⟩
 clear c1 hi
 rw [HX.out] at c2
 generalize l.any Stl.badByte=b at c2
 clear HX
 go_enter Tryz.func268,Tryz.ntmps268
 go_wp2_with fail
 refine c2.mono ?_
 rintro e w' ⟨rfl,hb⟩
 go_wp2
 go_ret
 exact ⟨rfl,hb⟩
end Go.Proofs.YthogfjmnnaoldaaGreatDoor
