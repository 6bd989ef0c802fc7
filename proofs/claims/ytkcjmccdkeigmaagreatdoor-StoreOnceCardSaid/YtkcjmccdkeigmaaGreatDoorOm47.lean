/- Texts of this claim, merged: StoPks, Same. -/
import Derived.Test.YtkcjmccdkeigmaaGreatDoorOm44
set_option maxHeartbeats 16000000
set_option maxRecDepth 1000000
set_option linter.all false
namespace Go.Proofs.YtkcjmccdkeigmaaGreatDoor
open Go.RowKit Go.Sort Go.Shelf Stl
theorem qKt {α β:Type} (F:α→Except Nat β):∀ (l:List α) (ms:List β),ms.map Except.ok=l.map F→l.mapM (fun p=>(F p).map fun n=>(p,n))=.ok (l.zip ms)
 | [],ms,h=>by
  have:ms=[]:=by simpa using h
  subst this
  rfl
 | x::r,[],h=>by simp at h
 | x::r,m::ms,h=>by
  simp only [zV,zD] at h
  rw [List.mapM_cons,← h.1,qKt F r ms h.2]
  rfl
theorem qIh {α β:Type} (F:α→Except Nat β):∀ (l:List α) (ms:List β) (i:Nat) (x:α) (cd:Nat),ms.map Except.ok=(l.take i).map F→l[i]?=some x→F x=.error cd→l.mapM (fun p=>(F p).map fun n=>(p,n))=.error cd
 | [],_,_,_,_,_,h,_=>by simp at h
 | y::r,ms,0,x,cd,_,h,he=>by
  simp only [List.getElem?_cons_zero,zA1] at h
  subst h
  rw [List.mapM_cons,he]
  rfl
 | y::r,[],i+1,x,cd,h,_,_=>by simp at h
 | y::r,m::ms,i+1,x,cd,h,h2,he=>by
  simp only [List.take_succ_cons,zV,zD] at h
  rw [List.mapM_cons,← h.1,qIh F r ms i x cd h.2 (by simpa using h2) he]
  rfl
theorem qN5 {α:Type} {l:List α} {i:Nat} {x:α} (h:l[i]?=some x):l.set i x=l:=by
 obtain ⟨h1,rfl⟩:=zM.1 h
 exact List.set_getElem_self h1
def PX.node (y:PX):List Value:=[.string y.t0,.string y.t1,.bool y.t2,.slice y.t3 y.t4 y.t5]
def PX.with (y:PX) (a0 a1:ByteArray) (a2:Bool) (A:Option Addr) (m c:Nat):PX:={ y with t0:=a0,t1:=a1,t2:=a2,t3:=A,t4:=m,t5:=c }
theorem qI1:∀ (zs:List PX) (i:Nat) (h:i<zs.length) (a0 a1:ByteArray) (a2:Bool) (A:Option Addr) (m c:Nat),
  ((((zs.flatMap qCQ).set (i*6+2) (.string a0)).set (i*6+2+1) (.string a1)).set (i*6+2+2) (.bool a2)).set (i*6+2+3) (.slice A m c)=(zs.set i (zs[i].with a0 a1 a2 A m c)).flatMap qCQ
 | [],_,h,_,_,_,_,_,_=>by simp at h
 | x::r,0,_,a0,a1,a2,A,m,c=>by simp [qCQ,PX.with,List.set]
 | x::r,i+1,h,a0,a1,a2,A,m,c=>by
  have h1:=qI1 r i (by simpa using h) a0 a1 a2 A m c
  have hl:(qCQ x).length=6:=rfl
  simp only [List.flatMap_cons,List.set_cons_succ,List.getElem_cons_succ]
  rw [List.set_append_right _ _ (by rw [hl];omega),List.set_append_right _ _ (by rw [hl];omega),List.set_append_right _ _ (by rw [hl];omega),List.set_append_right _ _ (by rw [hl];omega),hl]
  rw [show (i+1)*6+2-6=i*6+2 by omega,show (i+1)*6+2+1-6=i*6+2+1 by omega,show (i+1)*6+2+2-6=i*6+2+2 by omega,show (i+1)*6+2+3-6=i*6+2+3 by omega,h1]
structure PtAt (w:World) (c:Nat→Col) (A:Option Addr) (ys:List PX) (m:List (Pk×Nd)):Prop where
 row:ys≠[]→∃ g,A=some ⟨g,0,none⟩∧g<w.heap.size∧c g=.ro∧∀ (j:Nat) u,(ys.flatMap qCQ)[j]?=some u→w.cell? ⟨g,j,none⟩=some u
 refs:∀ y∈ys,y.p.refs.length≤y.cap∧RoStrs w c y.a y.p.refs
 eq:ys.map (·.p)=m.map (·.1)
 node:∀ (j:Nat) y q,ys[j]?=some y→m[j]?=some q→RoNode w c q.2 y.node
theorem PtAt.ext {w w2:World} {c c2:Nat→Col} {S:Col→Bool} {A:Option Addr} {ys:List PX} {m:List (Pk×Nd)} (h:PtAt w c A ys m) (e:Ext w w2 c c2 S) (h1:S .ro=false):PtAt w2 c2 A ys m :=
 ⟨fun hn=>by
  obtain ⟨g,ha,hg,hc,hj⟩:=h.row hn
  exact ⟨g,ha,zt hg e.size,e.col hg hc h1,fun j u hu=>(zC1 (w:=w) (a:=⟨g,j,none⟩) (e.keep g hg (by rw [hc];exact h1)).1).trans (hj j u hu)⟩,
  fun y hy=>⟨(h.refs y hy).1,(h.refs y hy).2.ext e h1⟩,h.eq,fun j y q hy hq=>(h.node j y q hy hq).ext e h1⟩
def qQ9 (w:World) (c:Nat→Col):Nat→Col:=fun k=>if k<w.heap.size then c k else .ro
theorem qM0 {w w2:World} (c:Nat→Col) (S:Col→Bool) (hb:Below w.heap.size w w2):Ext w w2 c (qQ9 w c) S:=(Ext.of_below hb c S).recolor fun _ hk _=>zL1 hk
def qP0 (p:Nat→Addr) (w:World) (c:Nat→Col) (r:Except Nat (List (Pk×Nd))) (e:Ending) (w':World):Prop :=
 ∃ (v er:Value),e=.returned (.tuple #[v,er])∧Below w.heap.size w w' ∧
  match r with
  | .error cd=>er=qAM p cd∧cd≠0
  | .ok m=>er=.nilIface∧∃ (A:Option Addr) (ys:List PX) (cap:Nat),v=.slice A m.length cap∧m.length≤cap∧PtAt w' (qQ9 w c) A ys m
structure qRE (w w2 wr:World) (c:Nat→Col) (s:Sto) (g:Nat) (A:Option Addr) (cap:Nat) (zs0 zs:List PX) (i:Nat) (ms:List Nd):Prop where
 below:Below w.heap.size w wr
 size:w2.heap.size≤wr.heap.size
 keep:∀ k,k<w2.heap.size→k≠g→wr.heap[k]?=w2.heap[k]?
 row:wr.ownsRow w.heap.size 42 6 (.slice A zs.length cap) zs.length (zs.flatMap qCQ)
 eq:zs.map (fun y=>(y.p,y.a,y.cap))=zs0.map (fun y=>(y.p,y.a,y.cap))
 got:ms.map Except.ok=(s.l.take i).map fun q=>s.d.get q.k
 node:∀ (j:Nat) y n,zs[j]?=some y→ms[j]?=some n→NodeP (fun k=>(k<w.heap.size∧c k=.ro)∨w2.heap.size≤k) wr n y.node
theorem NodeP.sets {P:Nat→Prop} {w:World} {n:Nd} {vs:List Value} {x o0 o1 o2 o3:Nat} {u0 u1 u2 u3:Value} (h:NodeP P w n vs) (hP:∀ b,P b→b≠x):NodeP P ((((w.setCell ⟨x,o0,none⟩ u0).setCell ⟨x,o1,none⟩ u1).setCell ⟨x,o2,none⟩ u2).setCell ⟨x,o3,none⟩ u3) n vs :=
 NodeP.go (by simp [World.setCell]) (fun b _ hp=>⟨by
  rw [zA _ ⟨x,o3,none⟩ _ b (hP b hp),zA _ ⟨x,o2,none⟩ _ b (hP b hp),zA _ ⟨x,o1,none⟩ _ b (hP b hp),zA _ ⟨x,o0,none⟩ _ b (hP b hp)],hp⟩) n vs h
section
variable {w:World} {A:Option Addr} {zs:List PkX} {c:Nat→Col} {b:Nat} {s:Sto} {bd:Nat} {cap:Nat} {R:Option Addr} {rc tp:Nat} {p:Nat→Addr}
theorem qI3 (h:StoX w c b s bd A cap zs R rc tp) (hg:qBd s) (hE:Env w c p) :
  Calls Tryz.prog 10 #[.pointer (some ⟨b,0,none⟩)] w (qP0 p w c s.packs):=by
 have hfew:=h.few hg.ok
 have hrf:=h.fewRefs hg.ok
 have H:=Hh h
 have HG:=Hh hg
 have HE:=Hh hE
 have HPS:=Hh (show s.packs=s.l.mapM (fun q=>(s.d.get q.k).map fun n=>(q,n)) from rfl)
 generalize s.packs=res at HPS ⊢
 have HPK:=Hh (qFG h (by omega) (fun x hx=>by have:=hrf x hx;omega))
 obtain ⟨c',hc'⟩:∃ c':Nat→Col,c'=fun k=>if k<w.heap.size then c k else .free:=⟨_,rfl⟩
 have HCO:=Hh (show ∀ k,c' k=.ro→k<w.heap.size∧c k=.ro from fun k hk=>by
  rw [hc'] at hk
  have hk:(if k<w.heap.size then c k else Col.free)=.ro:=hk
  by_cases hl:k<w.heap.size
  ·rw [zL1 hl] at hk;exact ⟨hl,hk⟩
  ·rw [zK1 hl] at hk;cases hk)
 have he0:Ext w w c c' S0:=(Ext.refl w c S0).recolor fun k hk _=>by rw [hc'];exact zL1 hk
 have HX0:=Hh (h.ext he0 rfl (fun _ _=>rfl))
 have HE0:=Hh (hE.ext he0 rfl)
 clear h hg hE hc' he0 hrf
 go_enter Tryz.func10,Tryz.ntmps10
 go_upto_region 3 with (go_at_call 24;refine HPK.out.mono ?_;rintro ev w2 ⟨A2,cap2,ys,rfl,hcap2,hys,hr2,hrr2,hz2,hb2⟩;have HB2:=Hh hb2;have HYS:=Hh hys;have HR2:=Hh hr2;have HRR2:=Hh hrr2;clear hb2 hys hr2 hrr2 hz2)
 have hyl:ys.length=s.l.length:=by have:=congrArg List.length HYS.out;simpa using this
 obtain ⟨g,hga⟩:∃ g,ys≠[]→A2=some ⟨g,0,none⟩∧w.heap.size≤g∧g<w2.heap.size:=by
  rcases HR2.out.2 with ⟨_,h0⟩ | ⟨g,cp,cur,e,h5,h6,_⟩
  ·exact ⟨0,fun hn=>absurd (zR.1 h0) hn⟩
  ·injection e with e1 _ _
   exact ⟨g,fun _=>⟨e1,h5,qAa h6⟩⟩
 have HGA:=Hh hga
 have HZ0:=Hh (show qRE w w2 w2 c s g A2 cap2 ys ys 0 [] from ⟨HB2.out,zo _,fun _ _ _=>rfl,HR2.out,rfl,rfl,fun j y n _ h=>by simp at h⟩)
 have hys40:ys.length≤40:=by rw [hyl];exact HG.out.ok.pks.many
 have HYL:=Hh hyl
 clear hga hyl
 go_loopw [12] (fun a wr=>∃ (i:Nat) (zs1:List PX) (ms:List Nd),a=.int .i64 i∧i≤ys.length∧zs1.length=ys.length∧ms.length=i∧Hid (qRE w w2 wr c s g A2 cap2 ys zs1 i ms)) (fun a _=>ys.length-(intOf a).toNat)
 case atStart=>exact ⟨0,ys,[],rfl,zw _,rfl,rfl,HZ0⟩
 case round =>
  obtain ⟨i,zs1,ms,rfl,hi,hzl,hml,HS⟩:=hrel
  by_cases hil:i<ys.length
  ·have i1:(i:Int)<(ys.length:Int):=by omega
   have i2:(0:Int)≤(i:Int):=by omega
   obtain ⟨rfl,hwg,hgw2⟩:=HGA.out (by intro e;rw [e] at hil;simp at hil)
   have hzi:i<zs1.length:=by omega
   have hsi:i<s.l.length:=by rw [← HYL.out];exact hil
   have hpe:zs1[i].p=s.l[i]:=by
    have h1:=congrArg (fun l:List (Pk×Option Addr×Nat)=>(l[i]?).map (·.1)) HS.out.eq
    simp only [zN,zL hzi,zL hil,zz,zA1] at h1
    have h2:=congrArg (fun l:List Pk=>l[i]?) HYS.out
    simp only [zN,zL hil,zL hsi,zz,zA1] at h2
    rw [h1,h2]
   have q0:wr.cell? ⟨g,i*6,none⟩=some (.string ⟨s.l[i].name.toArray⟩):=by
    have h1:=HS.out.row.cellAt (i*6+0) (by omega)
    rw [qBr zs1 i hzi 0 (by omega)] at h1
    rw [← hpe]
    simpa [qCQ] using h1
   have htr:s.tree s.l[i].name=s.d.get s.l[i].k:=by
    unfold Sto.tree
    cases hf:s.find s.l[i].name with
    | none =>
     have h1:=(qBJ (l:=s.l) (s:=s.l[i].name)).2 (zb.2 ⟨_,zO hsi,rfl⟩)
     have hf':(s.l.find? fun p=>p.name==s.l[i].name)=none:=hf
     rw [hf'] at h1
     cases h1
    | some q =>
     obtain ⟨h1,h2⟩:=qBP hf
     rw [qA4 (fun z:Pk=>z.name) HG.out.ok.pks.names h1 (zO hsi) h2]
   have HTR:=Hh (qKK (p:=p) ((HX0.out.below HS.out.below)) HG.out (HE0.out.below HS.out.below) s.l[i].name)
   rw [htr] at HTR
   have HSI:=Hh (show s.l[i]?=some s.l[i] from zL hsi)
   have HTK:=Hh (show s.l.take (i+1)=s.l.take i++[s.l[i]] from zn hsi)
   have HZI:=Hh (zL hzi)
   have HPE:=Hh hpe
   clear htr hpe
   generalize s.l[i]=q at *
   cases hgt:s.d.get q.k with
   | error cd =>
    rw [hgt] at HTR
    have HRS:=Hh (show res=.error cd from HPS.out.trans (qIh (fun q=>s.d.get q.k) s.l ms i q cd HS.out.got HSI.out hgt))
    clear hgt
    go_upto_region 6 with (go_at_call 25;refine HTR.out.mono ?_;rintro ev w4 ⟨hb4,a0,a1,a2,A4,m4,cp4,er,rfl,rfl,hcd⟩;have HB4:=Hh (HS.out.below.trans (hb4.mono HS.out.below.size));have HEO:=Hh (qAc p hcd);have HCD:=Hh hcd;clear hb4 hcd)
    have HB5:=Hh (HB4.out.alloc HB4.out.size (.cells #[.string a0,.string a1,.bool a2,.slice A4 m4 cp4] 40))
    rw [HEO.out]
    clear q0
    go_wp2
    go_ret2
    rw [HRS.out]
    exact ⟨_,_,rfl,HB5.out,by rw [HEO.out];rfl,HCD.out⟩
   | ok n =>
    rw [hgt] at HTR
    have HGT:=Hh hgt
    clear hgt
    go_upto_region 6 with (go_at_call 25;refine HTR.out.mono ?_;rintro ev w4 ⟨hb4,a0,a1,a2,A4,m4,cp4,er,rfl,rfl,hn4⟩;have HB4:=Hh hb4;have HN4:=Hh hn4;clear hb4 hn4)
    have hb5:=HB4.out.alloc HB4.out.size (.cells #[.string a0,.string a1,.bool a2,.slice A4 m4 cp4] 40)
    have HY5:=Hh (zJ1 w4 (.cells #[.string a0,.string a1,.bool a2,.slice A4 m4 cp4] 40))
    have HB45:=Hh ((zB w4.heap.size w4).alloc (zo _) (.cells #[.string a0,.string a1,.bool a2,.slice A4 m4 cp4] 40))
    have HBr5:=Hh hb5
    clear hb5 q0
    go_upto_region 8 with fail
    generalize w4.alloc (.cells #[.string a0,.string a1,.bool a2,.slice A4 m4 cp4] 40)=w5 at *
    have n0:=ce0 HY5.out
    have n1:=ce1 HY5.out
    have n2:=ce2 HY5.out
    have n3:=ce3 HY5.out
    have hr5:=qIk HS.out.row HBr5.out
    have HR5:=Hh hr5
    have e0:=(hr5.cellAt (i*6+2) (by omega)).trans (qBr zs1 i hzi 2 (by omega))
    have e1:=(hr5.cellAt (i*6+3) (by omega)).trans (qBr zs1 i hzi 3 (by omega))
    have e2:=(hr5.cellAt (i*6+4) (by omega)).trans (qBr zs1 i hzi 4 (by omega))
    have e3:=(hr5.cellAt (i*6+5) (by omega)).trans (qBr zs1 i hzi 5 (by omega))
    generalize zs1[i]=y at *
    have g0:w5.cell? ⟨g,i*6+2,none⟩=some (.string y.t0):=e0
    have g1:w5.cell? ⟨g,i*6+2+1,none⟩=some (.string y.t1):=e1
    have g2:w5.cell? ⟨g,i*6+2+2,none⟩=some (.bool y.t2):=e2
    have g3:w5.cell? ⟨g,i*6+2+3,none⟩=some (.slice y.t3 y.t4 y.t5):=e3
    have f0:w5.frozen? ⟨g,i*6+2,none⟩=false:=hr5.frozenAt _
    have f1:w5.frozen? ⟨g,i*6+2+1,none⟩=false:=hr5.frozenAt _
    have f2:w5.frozen? ⟨g,i*6+2+2,none⟩=false:=hr5.frozenAt _
    have f3:w5.frozen? ⟨g,i*6+2+3,none⟩=false:=hr5.frozenAt _
    have hne:w4.heap.size≠g:=by have:=HS.out.size;have:=HB4.out.size;omega
    clear e0 e1 e2 e3 hr5
    have HNX:=Hh (show qRE w w2 ((((w5.setCell ⟨g,i*6+2,none⟩ (.string a0)).setCell ⟨g,i*6+2+1,none⟩ (.string a1)).setCell ⟨g,i*6+2+2,none⟩ (.bool a2)).setCell ⟨g,i*6+2+3,none⟩ (.slice A4 m4 cp4)) c s g (some ⟨g,0,none⟩) cap2 ys (zs1.set i (y.with a0 a1 a2 A4 m4 cp4)) (i+1) (ms++[n]) from by
     have hbw:=HS.out.below.trans (HBr5.out.mono HS.out.below.size)
     have hsz:((((w5.setCell ⟨g,i*6+2,none⟩ (.string a0)).setCell ⟨g,i*6+2+1,none⟩ (.string a1)).setCell ⟨g,i*6+2+2,none⟩ (.bool a2)).setCell ⟨g,i*6+2+3,none⟩ (.slice A4 m4 cp4)).heap.size=w5.heap.size:=by simp [World.setCell]
     have hPg:∀ k,((k<w.heap.size∧c k=.ro)∨w2.heap.size≤k)→k≠g:=fun k hk=>by rcases hk with ⟨h1,_⟩ | h1<;>omega
     refine ⟨(((hbw.setCell (p:=⟨g,i*6+2,none⟩) hwg _).setCell (p:=⟨g,i*6+2+1,none⟩) hwg _).setCell (p:=⟨g,i*6+2+2,none⟩) hwg _).setCell (p:=⟨g,i*6+2+3,none⟩) hwg _,?_,fun k hk hkg=>?_,?_,?_,?_,fun j y' n' hy' hn'=>?_⟩
     ·rw [hsz];exact zq HS.out.size HBr5.out.size
     ·rw [zA _ ⟨g,i*6+2+3,none⟩ _ k hkg,zA _ ⟨g,i*6+2+2,none⟩ _ k hkg,zA _ ⟨g,i*6+2+1,none⟩ _ k hkg,zA _ ⟨g,i*6+2,none⟩ _ k hkg]
      exact (HBr5.out.block k (zt hk HS.out.size)).trans (HS.out.keep k hk hkg)
     ·have h1:=((((HR5.out.stored (i*6+2) (.string a0)).1.stored (i*6+2+1) (.string a1)).1.stored (i*6+2+2) (.bool a2)).1.stored (i*6+2+3) (.slice A4 m4 cp4)).1
      have hy:zs1[i]'hzi=y:=by have:=HZI.out;rw [zL hzi] at this;injection this
      rw [qI1 zs1 i hzi,hy] at h1
      rw [List.length_set]
      exact h1
     ·rw [List.map_set,← HS.out.eq]
      have h1:(zs1.map fun y=>(y.p,y.a,y.cap))[i]?=some (y.p,y.a,y.cap):=by rw [zN,HZI.out];rfl
      exact qN5 h1
     ·rw [HTK.out,zU,zU,HS.out.got]
      simp [HGT.out]
     ·have hms:ms.length=i:=hml
      by_cases hji:j=i
      ·subst hji
       rw [List.getElem?_set_self (by omega)] at hy'
       rw [List.getElem?_append_right (by omega),hms,Nat.sub_self] at hn'
       simp only [List.getElem?_cons_zero,zA1] at hy' hn'
       subst hy' hn'
       refine NodeP.sets ?_ hPg
       exact NodeP.go HB45.out.size (fun k hk hp=>⟨HB45.out.block k hk,by
        rcases hp with hp | hp
        ·exact .inl (HCO.out k hp)
        ·exact .inr (zq HS.out.size hp)⟩) _ _ HN4.out
      ·have hjl:j<ms.length:=by
        have:=(zM.1 hn').1
        simp at this
        omega
       rw [List.getElem?_set_ne (fun e=>hji e.symm)] at hy'
       rw [List.getElem?_append_left hjl] at hn'
       refine NodeP.sets ?_ hPg
       exact NodeP.go HBr5.out.size (fun k hk hp=>⟨HBr5.out.block k hk,hp⟩) _ _ (HS.out.node j y' n' hy' hn'))
    go_wp2
    go_roundw
    case rel=>exact ⟨i+1,_,_,by go_num,hil,by rw [List.length_set];exact hzl,by simp [hml],HNX⟩
    case measure=>simp [intOf];omega
  ·have i1:¬ (i:Int)<(ys.length:Int):=by omega
   obtain rfl:i=ys.length:=by omega
   have HRS:=Hh (show res=.ok (s.l.zip ms) from HPS.out.trans (qKt (fun q=>s.d.get q.k) s.l ms (by have:=HS.out.got;rw [HYL.out,zk] at this;exact this)))
   go_wp2
   go_ret2
   rw [HRS.out]
   have hml2:s.l.length=ms.length:=by rw [hml];exact HYL.out.symm
   have hzlen:(s.l.zip ms).length=ys.length:=by rw [List.length_zip,← hml2,Nat.min_self];exact HYL.out.symm
   have hzp:zs1.map (·.p)=s.l:=by
    rw [← HYS.out]
    have h1:=congrArg (List.map (fun q:Pk×Option Addr×Nat=>q.1)) HS.out.eq
    simpa [zW,Function.comp_def] using h1
   refine ⟨_,_,rfl,HS.out.below,rfl,A2,zs1,cap2,?_,by rw [hzlen];exact hcap2,⟨fun hn=>?_,fun y hy=>?_,?_,fun j y q hy hq=>?_⟩⟩
   ·rw [hzlen];rfl
   ·obtain ⟨h1,h2,h3⟩:=HGA.out (fun e=>hn (zH (by rw [hzl,e];rfl)))
    subst h1
    refine ⟨g,rfl,zt h3 HS.out.size,zK1 (by omega),fun j u hu=>?_⟩
    have hj:=(zM.1 hu).1
    rw [qC7] at hj
    rw [HS.out.row.cellAt j hj,hu]
   ·have h1:(y.p,y.a,y.cap)∈ys.map fun y=>(y.p,y.a,y.cap):=by rw [← HS.out.eq];exact zb.2 ⟨y,hy,rfl⟩
    obtain ⟨y0,hy0,he⟩:=zb.1 h1
    simp only [Prod.mk.injEq] at he
    obtain ⟨e1,e2,e3⟩:=he
    obtain ⟨r1,r2⟩:=HRR2.out y0 hy0
    rw [e1,e3] at r1
    rw [e1,e2,e3] at r2
    refine ⟨r1,qPO (base:=w.heap.size) (cap:=y.cap) ?_ (fun k hk=>zK1 (Nat.not_lt.2 hk))⟩
    refine ⟨r2.1,?_⟩
    rcases r2.2 with h2 | ⟨g',cp,cur,e,h5,h6,h7⟩
    ·exact .inl h2
    ·refine .inr ⟨g',cp,cur,e,h5,(HS.out.keep g' (qAa h6) ?_).trans h6,h7⟩
     intro eg
     rcases qHa r2 HR2.out (by decide) with h8 | h8
     ·rw [e] at h8;cases h8
     ·obtain ⟨h9,_,_⟩:=HGA.out (fun en=>by rw [en] at hy0;cases hy0)
      rw [e,h9,eg] at h8
      exact h8 rfl
   ·rw [List.map_fst_zip (by omega)]
    exact hzp
   ·obtain ⟨_,h2⟩:=List.getElem?_zip_eq_some.1 hq
    exact NodeP.go (zo _) (fun k hk hp=>⟨rfl,by
     show (if k<w.heap.size then c k else Col.ro)=.ro
     rcases hp with ⟨h1,h3⟩ | h1
     ·rw [zL1 h1];exact h3
     ·rw [zK1 (by have:=HB2.out.size;omega)]⟩) _ _ (HS.out.node j y q.2 hy h2)
end
def qMs (w0:World) (x y:Nd):Prop:=∀ (vs us:List Value) (W:World),Below w0.heap.size w0 W→NodeAt w0 x vs→NodeAt w0 y us→Calls Tryz.prog 11 #[.agg vs.toArray,.agg us.toArray] W fun e w'=>e=.returned (.bool (qDj x y))∧Below W.heap.size W w'
theorem qMB (w0:World) (nm nm':List UInt8) (x y:Nd) (vs us:List Value) (hS:qMs w0 x y) (hx:NodeAt w0 x vs) (hy:NodeAt w0 y us) (w:World) (hb:Below w0.heap.size w0 w) :
  Calls Tryz.prog 27 #[Value.agg ([Value.string ⟨nm.toArray⟩]++vs).toArray,Value.agg ([Value.string ⟨nm'.toArray⟩]++us).toArray] w fun e w'=>e=.returned (.bool (nm==nm'&&qDj x y))∧Below w.heap.size w w':=by
 have HS:=Hh (hS vs us)
 have HX:=Hh hx
 have HY:=Hh hy
 obtain ⟨k,d,e,ks⟩:=x
 obtain ⟨k',d',e',ks'⟩:=y
 obtain ⟨A,c,rfl,_,_⟩:=hx.open
 obtain ⟨A',c',rfl,_,_⟩:=hy.open
 generalize qDj (.mk k d e ks) (.mk k' d' e' ks')=r at HS ⊢
 simp only [zE,zh]
 have hb1:Below w.heap.size w ((w.alloc (.cells #[.string ⟨nm.toArray⟩,.string ⟨k.toArray⟩,.string ⟨d.toArray⟩,.bool e,.slice A ks.length c] 78)).alloc (.cells #[.string ⟨nm'.toArray⟩,.string ⟨k'.toArray⟩,.string ⟨d'.toArray⟩,.bool e',.slice A' ks'.length c'] 78)):=((zB _ w).alloc (zo _) _).alloc (by simp) _
 have HB1:=Hh hb1
 have HSA:=Hh (HS.out _ (hb.trans (hb1.mono hb.size)) HX.out HY.out)
 clear hS hx hy hb hb1
 cases hq:nm==nm' with
 | false =>
  go_enter Tryz.func27,Tryz.ntmps27
  go_wp2_with fail
  go_ret
  exact ⟨rfl,HB1.out⟩
 | true =>
  go_enter Tryz.func27,Tryz.ntmps27
  go_wp2_with (go_at_call 11;refine HSA.out.mono ?_;rintro ev w2 ⟨rfl,hb2⟩;have HB2:=Hh (HB1.out.trans (hb2.mono HB1.out.size));clear hb2)
  go_ret
  exact ⟨by simp,HB2.out⟩
theorem qLe (w0:World) (A A':Option Addr) (c c':Nat) (ks ks':List (List UInt8×Nd)) (hl:ks.length≤140737488355328) (hl':ks'.length≤140737488355328) (hk:KidsOf w0 A ks) (hk':KidsOf w0 A' ks')
  (hS:∀ (j:Nat) (h:j<ks.length) (h':j<ks'.length),qMs w0 ks[j].2 ks'[j].2) (w:World) (hb:Below w0.heap.size w0 w) :
  Calls Tryz.prog 26 #[.slice A ks.length c,.slice A' ks'.length c',.func (.func 27) #[] #[]] w fun e w'=>e=.returned (.bool (qA6 ks ks'))∧Below w.heap.size w w':=by
 have HK:=Hh hk
 have HK':=Hh hk'
 have HS:=Hh hS
 have HB0:=Hh hb
 obtain ⟨r,hr⟩:∃ r,r=qA6 ks ks':=⟨_,rfl⟩
 rw [← hr]
 have HR:=Hh hr
 clear hk hk' hS hb hr
 by_cases hlen:ks.length=ks'.length
 ·have i0:(ks.length:Int)=(ks'.length:Int):=by omega
  have HLEN:=Hh hlen
  clear hlen
  go_enter Tryz.func26,Tryz.ntmps26
  go_upto_region 3 with fail
  clear i0
  go_upto_region 4 with fail
  go_loopw [17] (fun a wr=>∃ j:Nat,j≤ks.length∧a=.int .i64 j∧Hid (Below w.heap.size w wr)∧Hid (r=qA6 (ks.drop j) (ks'.drop j))) (fun a _=>ks.length-(intOf a).toNat)
  case atStart=>exact ⟨0,zw _,rfl,Hh (zB _ _),HR⟩
  case round =>
   obtain ⟨j,hj,rfl,HB,HRJ⟩:=hrel
   by_cases hjl:j<ks.length
   ·have hjl':j<ks'.length:=by have:=HLEN.out;omega
    have i1:(j:Int)<(ks.length:Int):=by omega
    have i3:(j:Int)<(ks'.length:Int):=by omega
    have i2:(0:Int)≤(j:Int):=by omega
    have hb0r:=HB0.out.trans (HB.out.mono HB0.out.size)
    obtain ⟨b,off,rfl,hlt,⟨h0,hl0⟩,v0,v1,v2,v3,c1,c2,c3,c4,hn⟩:=HK.out.at hjl
    obtain ⟨b',off',rfl,hlt',⟨h0',hl0'⟩,u0,u1,u2,u3,c1',c2',c3',c4',hn'⟩:=HK'.out.at hjl'
    have up:∀ (bb i:Nat) v,bb<w0.heap.size→w0.cell? ⟨bb,i,none⟩=some v→wr.cell? ⟨bb,i,none⟩=some v:=fun bb i v hbb hv=>(hb0r.cell (p:=⟨bb,i,none⟩) hbb).trans hv
    have HSJ:=Hh (HS.out j hjl hjl')
    have HRN:=Hh (show r=((ks[j].1==ks'[j].1&&qDj ks[j].2 ks'[j].2)&&qA6 (ks.drop (j+1)) (ks'.drop (j+1))) by
     rw [HRJ.out,zF hjl,zF hjl',qA6])
    generalize ks[j]=kd at h0 hl0 hn HSJ HRN
    generalize ks'[j]=kd' at h0' hl0' hn' HSJ HRN
    obtain ⟨nm,x⟩:=kd
    obtain ⟨nm',y⟩:=kd'
    simp only at h0 hl0 hn HSJ HRN h0' hl0' hn'
    obtain ⟨kx,dx,ex,ksx⟩:=x
    obtain ⟨ky,dy,ey,ksy⟩:=y
    obtain ⟨A3,cc3,e3,_,_⟩:=hn.open
    obtain ⟨A4,cc4,e4,_,_⟩:=hn'.open
    simp only [zD,and_true] at e3 e4
    obtain ⟨rfl,rfl,rfl,rfl⟩:=e3
    obtain ⟨rfl,rfl,rfl,rfl⟩:=e4
    replace h0:=up _ _ _ hlt h0
    replace c1:=up _ _ _ hlt c1
    replace c2:=up _ _ _ hlt c2
    replace c3:=up _ _ _ hlt c3
    replace c4:=up _ _ _ hlt c4
    replace h0':=up _ _ _ hlt' h0'
    replace c1':=up _ _ _ hlt' c1'
    replace c2':=up _ _ _ hlt' c2'
    replace c3':=up _ _ _ hlt' c3'
    replace c4':=up _ _ _ hlt' c4'
    have HN:=Hh hn
    have HN':=Hh hn'
    have HBR:=Hh hb0r
    clear up hn hn' hb0r
    have hb4:Below wr.heap.size wr ((wr.alloc (.cells #[.string ⟨nm.toArray⟩,.string ⟨kx.toArray⟩,.string ⟨dx.toArray⟩,.bool ex,.slice A3 ksx.length cc3] 78)).alloc (.cells #[.string ⟨nm'.toArray⟩,.string ⟨ky.toArray⟩,.string ⟨dy.toArray⟩,.bool ey,.slice A4 ksy.length cc4] 78)):=((zB _ wr).alloc (zo _) _).alloc (by simp) _
    have HX1:=Hh (qAn (wr.alloc (.cells #[.string ⟨nm.toArray⟩,.string ⟨kx.toArray⟩,.string ⟨dx.toArray⟩,.bool ex,.slice A3 ksx.length cc3] 78)) (.cells #[.string ⟨nm'.toArray⟩,.string ⟨ky.toArray⟩,.string ⟨dy.toArray⟩,.bool ey,.slice A4 ksy.length cc4] 78) (zJ1 wr (.cells #[.string ⟨nm.toArray⟩,.string ⟨kx.toArray⟩,.string ⟨dx.toArray⟩,.bool ex,.slice A3 ksx.length cc3] 78)))
    have hx2:=zJ1 (wr.alloc (.cells #[.string ⟨nm.toArray⟩,.string ⟨kx.toArray⟩,.string ⟨dx.toArray⟩,.bool ex,.slice A3 ksx.length cc3] 78)) (.cells #[.string ⟨nm'.toArray⟩,.string ⟨ky.toArray⟩,.string ⟨dy.toArray⟩,.bool ey,.slice A4 ksy.length cc4] 78)
    rw [show (wr.alloc (.cells #[.string ⟨nm.toArray⟩,.string ⟨kx.toArray⟩,.string ⟨dx.toArray⟩,.bool ex,.slice A3 ksx.length cc3] 78)).heap.size=wr.heap.size+1 by simp] at hx2
    have HX2:=Hh hx2
    have HSM:=Hh (qMB w0 nm nm' (.mk kx dx ex ksx) (.mk ky dy ey ksy) _ _ HSJ.out HN.out HN'.out _ (HBR.out.trans (hb4.mono HBR.out.size)))
    simp only [zE,zh] at HSM
    have HB4:=Hh (HB.out.trans (hb4.mono HB.out.size))
    clear hx2 hb4
    go_upto_region 6 with fail
    have hlr':b'<wr.heap.size:=zt hlt' HBR.out.size
    have hup:∀ (i:Nat) v,wr.cell? ⟨b',i,none⟩=some v→(wr.alloc (.cells #[.string ⟨nm.toArray⟩,.string ⟨kx.toArray⟩,.string ⟨dx.toArray⟩,.bool ex,.slice A3 ksx.length cc3] 78)).cell? ⟨b',i,none⟩=some v:=fun i v hv=>(zC1 (a:=⟨b',i,none⟩) (Below.heap_alloc _ _ b' hlr')).trans hv
    replace h0':=hup _ _ h0'
    replace c1':=hup _ _ c1'
    replace c2':=hup _ _ c2'
    replace c3':=hup _ _ c3'
    replace c4':=hup _ _ c4'
    clear hup
    go_upto_region 7 with fail
    clear h0 c1 c2 c3 c4 h0' c1' c2' c3' c4'
    generalize (wr.alloc (.cells #[.string ⟨nm.toArray⟩,.string ⟨kx.toArray⟩,.string ⟨dx.toArray⟩,.bool ex,.slice A3 ksx.length cc3] 78)).alloc (.cells #[.string ⟨nm'.toArray⟩,.string ⟨ky.toArray⟩,.string ⟨dy.toArray⟩,.bool ey,.slice A4 ksy.length cc4] 78)=w4 at *
    have y0:=ce0 HX1.out
    have y1:=ce1 HX1.out
    have y2:=ce2 HX1.out
    have y3:=ce3 HX1.out
    have y4:=ce4 HX1.out
    have z0:=ce0 HX2.out
    have z1:=ce1 HX2.out
    have z2:=ce2 HX2.out
    have z3:=ce3 HX2.out
    have z4:=ce4 HX2.out
    generalize (nm==nm'&&qDj (.mk kx dx ex ksx) (.mk ky dy ey ksy))=bb at HSM HRN
    cases bb with
    | true =>
     have HRM:=Hh (show r=qA6 (ks.drop (j+1)) (ks'.drop (j+1)) by rw [HRN.out,Bool.true_and])
     go_wp2_with (go_at_call 27;refine HSM.out.mono ?_;rintro ev w5 ⟨rfl,hb5⟩;have HB5:=Hh (HB4.out.trans (hb5.mono HB4.out.size));clear hb5)
     clear y0 y1 y2 y3 y4 z0 z1 z2 z3 z4
     go_roundw
     case rel=>exact ⟨j+1,hjl,by go_num,HB5,HRM⟩
     case measure=>simp [intOf];omega
    | false =>
     have HRM:=Hh (show r=false by rw [HRN.out,Bool.false_and])
     go_wp2_with (go_at_call 27;refine HSM.out.mono ?_;rintro ev w5 ⟨rfl,hb5⟩;have HB5:=Hh (HB4.out.trans (hb5.mono HB4.out.size));clear hb5)
     go_ret
     exact ⟨by rw [HRM.out];rfl,HB5.out⟩
   ·have i1:¬ (j:Int)<(ks.length:Int):=by omega
    have HRM:=Hh (show r=true by rw [HRJ.out,zG (by omega),zG (by have:=HLEN.out;omega)];rfl)
    go_wp2
    go_ret
    exact ⟨by rw [HRM.out];rfl,HB.out⟩
 ·have i0:¬ (ks.length:Int)=(ks'.length:Int):=by omega
  have HRM:=Hh (show r=false by
   rw [HR.out,Bool.eq_false_iff]
   intro h
   rw [(qDT ks ks').1 h] at hlen
   exact hlen rfl)
  go_enter Tryz.func26,Tryz.ntmps26
  go_wp2
  go_ret
  exact ⟨by rw [HRM.out];rfl,zB _ _⟩
theorem qKv (a b:List UInt8):((a==b)=true)∨((a==b)=false):=by cases a==b<;>simp
theorem qKV (w0:World):∀ (N:Nat) (x y:Nd),Stl.wt x≤N→qMs w0 x y
 | 0,x,y,hN=>by obtain ⟨k,d,e,ks⟩:=x;simp [Stl.wt] at hN
 | N+1,.mk k d e ks,.mk k' d' e' ks',hN=>by
  intro vs us w hb hx hy
  have HX:=Hh hx
  have HY:=Hh hy
  obtain ⟨A,c,rfl,hbd,hko⟩:=hx.open
  obtain ⟨A',c',rfl,hbd',hko'⟩:=hy.open
  have hb1:Below w.heap.size w ((w.alloc (.cells #[.string ⟨k.toArray⟩,.string ⟨d.toArray⟩,.bool e,.slice A ks.length c] 40)).alloc (.cells #[.string ⟨k'.toArray⟩,.string ⟨d'.toArray⟩,.bool e',.slice A' ks'.length c'] 40)):=((zB _ w).alloc (zo _) _).alloc (by simp) _
  have HX1:=Hh (qAn (w.alloc (.cells #[.string ⟨k.toArray⟩,.string ⟨d.toArray⟩,.bool e,.slice A ks.length c] 40)) (.cells #[.string ⟨k'.toArray⟩,.string ⟨d'.toArray⟩,.bool e',.slice A' ks'.length c'] 40) (zJ1 w (.cells #[.string ⟨k.toArray⟩,.string ⟨d.toArray⟩,.bool e,.slice A ks.length c] 40)))
  have hx2:=zJ1 (w.alloc (.cells #[.string ⟨k.toArray⟩,.string ⟨d.toArray⟩,.bool e,.slice A ks.length c] 40)) (.cells #[.string ⟨k'.toArray⟩,.string ⟨d'.toArray⟩,.bool e',.slice A' ks'.length c'] 40)
  rw [show (w.alloc (.cells #[.string ⟨k.toArray⟩,.string ⟨d.toArray⟩,.bool e,.slice A ks.length c] 40)).heap.size=w.heap.size+1 by simp] at hx2
  have HX2:=Hh hx2
  have HEQ:=Hh (qLe w0 A A' c c' ks ks' hbd.2.1 hbd'.2.1 hko hko' (fun j h h'=>qKV w0 N ks[j].2 ks'[j].2 (zq (Stl.wt_mem ks j h) (by simp only [Stl.wt] at hN;omega))) _ (hb.trans (hb1.mono hb.size)))
  have HB1:=Hh hb1
  have HR:=Hh (show qDj (.mk k d e ks) (.mk k' d' e' ks')=(k==k'&&d==d'&&e==e'&&qA6 ks ks') by rw [qDj])
  generalize qDj (.mk k d e ks) (.mk k' d' e' ks')=r at HR ⊢
  generalize qA6 ks ks'=sk at HEQ HR
  clear hx hy hbd hbd' hko hko' hb1 hx2 hN hb
  go_enter Tryz.func11,Tryz.ntmps11
  go_upto_region 1 with fail
  generalize (w.alloc (.cells #[.string ⟨k.toArray⟩,.string ⟨d.toArray⟩,.bool e,.slice A ks.length c] 40)).alloc (.cells #[.string ⟨k'.toArray⟩,.string ⟨d'.toArray⟩,.bool e',.slice A' ks'.length c'] 40)=w4 at *
  have y0:=ce0 HX1.out
  have y1:=ce1 HX1.out
  have y2:=ce2 HX1.out
  have y3:=ce3 HX1.out
  have z0:=ce0 HX2.out
  have z1:=ce1 HX2.out
  have z2:=ce2 HX2.out
  have z3:=ce3 HX2.out
  rcases qKv k k' with hk | hk
  ·rcases qKv d d' with hd | hd
   ·rw [hk,hd] at HR
    cases e<;>cases e'
    ·go_wp2_with (go_at_call 26;refine HEQ.out.mono ?_;rintro ev w2 ⟨rfl,hb2⟩;have HB2:=Hh (HB1.out.trans (hb2.mono HB1.out.size));clear hb2)
     go_ret
     exact ⟨by rw [HR.out];simp,HB2.out⟩
    ·go_wp2_with fail
     go_ret
     exact ⟨by rw [HR.out];rfl,HB1.out⟩
    ·go_wp2_with fail
     go_ret
     exact ⟨by rw [HR.out];rfl,HB1.out⟩
    ·go_wp2_with (go_at_call 26;refine HEQ.out.mono ?_;rintro ev w2 ⟨rfl,hb2⟩;have HB2:=Hh (HB1.out.trans (hb2.mono HB1.out.size));clear hb2)
     go_ret
     exact ⟨by rw [HR.out];simp,HB2.out⟩
   ·rw [hk,hd] at HR
    go_wp2_with fail
    go_ret
    exact ⟨by rw [HR.out];rfl,HB1.out⟩
  ·rw [hk] at HR
   go_wp2_with fail
   go_ret
   exact ⟨by rw [HR.out];rfl,HB1.out⟩
end Go.Proofs.YtkcjmccdkeigmaaGreatDoor
