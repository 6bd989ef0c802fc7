/- Texts of this claim, merged: Queue, Give, TabWalk, TabWrite. -/
import Derived.Deep.Upon
import Derived.Test.YtceklhjomhjipaaGreatDoorKm13
set_option maxHeartbeats 16000000
set_option maxRecDepth 1000000
set_option linter.all false
namespace Stl
open Go Go.RowKit
def QueueAt (w:World) (O:Nat→Prop) (A:Option Addr) (n cap:Nat) (xs:List Value):Prop :=
 ∃ b off,Came w 1 A b off n cap xs∧(0<cap→O b)∧cap≤maxLen
structure Keeps (O:Nat→Prop) (w w':World):Prop where
 os:w'.os=w.os
 tape:w'.tape=w.tape
 output:w'.output=w.output
 size:w.heap.size≤w'.heap.size
 block:∀ k,k<w.heap.size→¬ O k→w'.heap[k]?=w.heap[k]?
theorem Keeps.below {base:Nat} {w w':World} (h:Keeps (fun k=>base≤k) w w') (hb:base≤w.heap.size):Below base w w' :=
 ⟨h.os,h.tape,h.output,h.size,fun k hk=>h.block k (zu hk hb) (Nat.not_le_of_lt hk)⟩
theorem qEB (b:Nat):∀ (vs:List Value) (o:Nat) (w:World),(w.setCells b o vs).heap.size=w.heap.size∧(w.setCells b o vs).tape=w.tape
 | [],_,_=>⟨rfl,rfl⟩
 | v::r,o,w=>by
  obtain ⟨h1,h2⟩:=qEB b r (o+1) (w.setCell ⟨b,o,none⟩ v)
  exact ⟨h1.trans (by simp [World.setCell]),h2.trans rfl⟩
section
variable {w w':World} {O:Nat→Prop} {A:Option Addr} {n cap:Nat} {xs:List Value}
theorem QueueAt.mono {O':Nat→Prop} (h:QueueAt w O A n cap xs) (hO:∀ b,b<w.heap.size→O b→O' b):QueueAt w O' A n cap xs:=by
 obtain ⟨b,off,hc,h2,h3⟩:=h
 exact ⟨b,off,hc,fun h0=>hO b (hc.lt h0) (h2 h0),h3⟩
theorem QueueAt.go {O':Nat→Prop} (h:QueueAt w O A n cap xs) (hsz:w.heap.size≤w'.heap.size) (hb:∀ b,b<w.heap.size→O b→w'.heap[b]?=w.heap[b]?∧O' b):QueueAt w' O' A n cap xs:=by
 obtain ⟨b,off,hc,h2,h3⟩:=h
 have hk:0<cap→w'.heap[b]?=w.heap[b]?:=fun h0=>(hb b (hc.lt h0) (h2 h0)).1
 refine ⟨b,off,⟨hc.le,hc.addr,fun h0=>zu (hc.lt h0) hsz,hc.oldsLen,fun j u hu=>?_,fun j hj=>?_⟩,fun h0=>(hb b (hc.lt h0) (h2 h0)).2,h3⟩
 ·have h0:0<cap:=by
   have:=(zM.1 hu).1
   have:=hc.oldsLen
   have:=hc.le
   omega
  exact (zD1 (a:=⟨b,off+j,none⟩) (hk h0)).trans (hc.olds j u hu)
 ·have h0:0<cap:=by omega
  rw [zD1 (a:=⟨b,off+n*1+j,none⟩) (hk h0),zE1 (a:=⟨b,off+n*1+j,none⟩) (hk h0)]
  exact hc.spare j hj
theorem QueueAt.below (h:QueueAt w O A n cap xs) (hb:Below w.heap.size w w'):QueueAt w' O A n cap xs:=h.go hb.size fun b hl hO=>⟨hb.block b hl,hO⟩
theorem QueueAt.len (h:QueueAt w O A n cap xs):xs.length=n∧n≤cap∧cap≤maxLen:=by
 obtain ⟨b,off,hc,_,h3⟩:=h
 have:=hc.oldsLen
 exact ⟨by omega,hc.le,h3⟩
theorem QueueAt.head {x:Value} (h:QueueAt w O A (n+1) cap (x::xs)):∃ b off,A=some ⟨b,off,none⟩∧w.cell? ⟨b,off,none⟩=some x∧b<w.heap.size∧O b∧QueueAt w O (some ⟨b,off+1,none⟩) n (cap-1) xs:=by
 obtain ⟨b,off,hc,h2,h3⟩:=h
 have hle:=hc.le
 have h0:0<cap:=by omega
 refine ⟨b,off,hc.addr h0,hc.olds 0 x rfl,hc.lt h0,h2 h0,b,off+1,⟨by omega,fun _=>rfl,fun _=>hc.lt h0,?_,fun j u hu=>?_,fun j hj=>?_⟩,fun _=>h2 h0,by omega⟩
 ·have:=hc.oldsLen
  simp only [zQ] at this
  omega
 ·rw [show off+1+j=off+(j+1) by omega]
  exact hc.olds (j+1) u hu
 ·rw [show off+1+n*1+j=off+(n+1)*1+j by omega]
  exact hc.spare j (by omega)
theorem QueueAt.of_owns {base:Nat} {e:TypeId} (h:w.ownsRow base e 1 (.slice A n cap) n xs):QueueAt w (fun k=>base≤k) A n cap xs:=by
 obtain ⟨h1,h2⟩:=h
 rcases h2 with ⟨e1,e2⟩ | ⟨g,cp,cur,e1,h2,h3,h4,h5,h6⟩
 ·injection e1 with a1 a2 a3
  subst a1 a2 a3
  refine ⟨0,0,⟨zq _,fun h=>by omega,fun h=>by omega,by simpa using h1,fun j u hu=>?_,fun j hj=>by omega⟩,fun h=>by omega,by decide⟩
  have:=(zM.1 hu).1
  omega
 ·injection e1 with a1 a2 a3
  subst a1 a3
  clear a2
  refine ⟨g,0,⟨h4,fun _=>rfl,fun _=>(Array.getElem?_eq_some_iff.1 h3).1,h1,fun j u hu=>?_,fun j hj=>?_⟩,fun _=>h2,h5⟩
  ·have hj:j<n:=by
    have:=(zM.1 hu).1
    omega
   rw [← h6.2,List.getElem?_take,zM1 (by omega)] at hu
   simp only [World.cell?,h3,zw]
   simpa using hu
  ·have hlt:0+n*1+j<cur.size:=by omega
   refine ⟨?_,?_⟩
   ·simp only [World.cell?,h3]
    simp only [zw,Nat.mul_one] at hlt ⊢
    simp [hlt]
   ·simp [World.frozen?,h3]
theorem QueueAt.app {P:Program} {t tx ty e:TypeId} {i:TypeInfo} {z:Value} {bytes:Nat} (ht:P.underlying t=some (.slice e)) (hi:P.info? e=some i) (hz:i.zero=some z) (hsize:i.size=1) (hby:i.bytes=bytes) (hzs:z.cells.size=1)
  (h:QueueAt w O A n cap xs) (x:Value) (m:Nat) (news:List Value) (hs:Src P 1 tx x m news w) (h63:n+m≤maxLen) (hbytes:(n+m)*bytes≤140737488355328) :
  ∃ A' cap' w',(Builtin.append_ #[t,tx] ty #[.slice A n cap,x]).run P w=.ok (.slice A' (n+m) cap') w'∧QueueAt w' (fun k=>O k∨w.heap.size≤k) A' (n+m) cap' (xs++news)∧Keeps O w w':=by
 obtain ⟨b,off,hc,h2,h3⟩:=h
 have hnl:=hs.newsLen
 have hol:=hc.oldsLen
 rw [Nat.mul_one] at hnl hol
 by_cases hfit:n+m≤cap
 ·rcases Nat.eq_zero_or_pos cap with h0 | hcap
  ·subst h0
   obtain rfl:m=0:=by omega
   obtain rfl:news=[]:=zH hnl
   refine ⟨A,0,w,run_append_nothing (P:=P) w t tx ty e i ht hi A n 0 hc.le x (by rw [hsize];exact hs),?_,⟨rfl,rfl,rfl,zq _,fun _ _ _=>rfl⟩⟩
   rw [List.append_nil]
   exact ⟨b,off,hc,fun h0=>.inl (h2 h0),h3⟩
  ·obtain rfl:=hc.addr hcap
   have hsp:∀ j,j<news.length→(w.cell? ⟨b,off+n*i.size+j,none⟩).isSome=true∧w.frozen? ⟨b,off+n*i.size+j,none⟩=false:=fun j hj=>by
    rw [hsize]
    exact hc.spare j (by omega)
   have hrun:=run_append_room_src (P:=P) w t tx ty e i ht hi b off n cap x m news (by rw [hsize];exact hs) hfit (fun j hj=>(hsp j hj).1) (fun j hj=>(hsp j hj).2)
   rw [hsize,Nat.mul_one] at hrun
   have hsp':∀ j,j<news.length→(w.cell? ⟨b,off+n+j,none⟩).isSome=true:=fun j hj=>by
    have:=(hsp j hj).1
    rwa [hsize,Nat.mul_one] at this
   obtain ⟨s1,s2⟩:=qEB b news (off+n) w
   refine ⟨_,_,_,hrun,⟨b,off,⟨hfit,fun _=>rfl,fun _=>by rw [s1];exact hc.lt hcap,by rw [zP];omega,fun j u hu=>?_,fun j hj=>?_⟩,fun h0=>.inl (h2 h0),h3⟩,⟨World.os_setCells w b (off+n) news,s2,World.output_setCells w b (off+n) news,Nat.le_of_eq s1.symm,fun k hk hO=>?_⟩⟩
   ·rcases zv j n with hj | hj
    ·rw [List.getElem?_append_left (by omega)] at hu
     rw [World.cell?_setCells_out b news (off+n) w ⟨b,off+j,none⟩ (fun _ _=>.inl (by simp only;omega))]
     exact hc.olds j u hu
    ·have hj2:j-n<news.length:=by
      have:=(zM.1 hu).1
      simp only [zP] at this
      omega
     rw [List.getElem?_append_right (by omega),hol,zL hj2] at hu
     have:=World.cell?_setCells_in b news (off+n) w hsp' (j-n) hj2
     rw [show off+n+(j-n)=off+j by omega] at this
     rw [this]
     exact hu
   ·rw [Nat.mul_one] at hj
    rw [World.frozen?_setCells,World.cell?_setCells_out b news (off+n) w ⟨b,off+(n+m)*1+j,none⟩ (fun _ _=>.inr (by simp only;omega))]
    have:=hc.spare (m+j) (by omega)
    rw [show off+n*1+(m+j)=off+(n+m)*1+j by omega] at this
    exact this
   ·have hb2:=h2 hcap
    exact World.heap_setCells_other w b (off+n) news hk (fun e=>hO (by rw [e];exact hb2))
 ·have hold:(Builtin.firstCells i.size n (.slice A n cap)).run P w.drew=.ok xs.toArray w.drew:=by
   rw [hsize]
   cases A with
   | none =>
    have hc0:cap=0:=by
     rcases Nat.eq_zero_or_pos cap with h0 | h0
     ·exact h0
     ·exact absurd (hc.addr h0) (by simp)
    have hn0:n=0:=by have:=hc.le;omega
    subst hc0 hn0
    obtain rfl:xs=[]:=zH hol
    exact run_firstCells_none w.drew 1 0 0 0
   | some a =>
    refine run_firstCells_some w.drew 1 n a n cap xs (by omega) (fun j u hu=>?_)
    have h0:0<cap:=by
     have:=(zM.1 hu).1
     have:=hc.le
     omega
    have:=hc.addr h0
    injection this with this
    subst this
    have e1:(⟨b,off,none⟩:Addr).add j=⟨b,off+j,none⟩:=by unfold Addr.add;split<;>simp_all
    rw [e1]
    exact hc.olds j u hu
  have hrun:=run_append_grow_src (P:=P) w t tx ty e i z ht hi hz A n cap xs hold x m news (by rw [hsize];exact hs) (by omega) (by unfold maxLen at h63;omega) (by rw [hby];exact growslice_fits (by omega) hbytes)
  have hge:=grownCap_ge w (n+m) cap e
  have hcm:=grownCap_le_maxLen w (n+m) cap e h63
  refine ⟨_,_,_,hrun,?_,⟨rfl,rfl,rfl,by simp,fun k hk _=>Below.heap_alloc w.drew _ k hk⟩⟩
  generalize grownCap w (n+m) cap e=C at *
  have hL:(xs++news).length=n+m:=by rw [zP];omega
  have hz2:(Builtin.zeroCells z.cells (C-(n+m))).size=C-(n+m):=by rw [size_zeroCells,hzs,Nat.mul_one]
  have hce:∀ j,(w.drew.alloc (.cells ((xs++news).toArray++Builtin.zeroCells z.cells (C-(n+m))) e)).cell? ⟨w.heap.size,0+j,none⟩=((xs++news).toArray++Builtin.zeroCells z.cells (C-(n+m)))[j]?:=fun j=>by rw [zw];exact World.cell?_alloc_new w.drew _ _ j
  refine ⟨w.heap.size,0,⟨hge,fun _=>rfl,fun _=>by simp,by omega,fun j u hu=>?_,fun j hj=>?_⟩,fun _=>.inr (zq _),hcm⟩
  ·rw [hce]
   have:=(zM.1 hu).1
   rw [Array.getElem?_append_left (by simp;simpa using this)]
   simpa using hu
  ·have e1:0+(n+m)*1+j=0+((n+m)+j):=by omega
   rw [e1,hce]
   refine ⟨?_,by rw [zw];exact World.frozen?_alloc_new w.drew _ _ _⟩
   rw [Array.getElem?_eq_getElem (by rw [Array.size_append,hz2,List.size_toArray,hL];omega)]
   rfl
end
theorem qCD {P:Program} {w:World} {ops:Array Oper} {rest:List Oper} {o:Oper} {a:Act} {Q:Exit→Act→World→Prop} (hgd:o.guard=none) (s x:Operand) (t tx:TypeId)
  (ho:o.op=.call { callee:=.builtin .append,args:=#[s,x],argTypes:=#[t,tx] }) {v y v':Value} {w':World} (hs:a.eval s=v) (hx:a.eval x=y)
  (hr:(Builtin.append_ #[t,tx] o.type #[v,y]).run P w=.ok v' w') (h:wpList P ops Q rest (a.put o.dst v') w'):wpList P ops Q (o::rest) a w :=
 wpList_plain hgd fun _ hK=>by
  unfold Oper.wp execOp
  simp only [ho,resolve,invoke,builtin,Sem.run_bind,Sem.run_pure,Result.andThen_ok,List.map_toArray,zV,List.map_nil,hs,hx,hr]
  exact hK _ _ h
end Stl
namespace Go.Proofs.YtceklhjomhjipaaGreatDoor
open Go.RowKit Go.Sort Go.Shelf Stl
section
variable {w:World} {c:Nat→Col} {b:Nat} {U:List Bool}
theorem qNL (k:Nat) (bx:Nat) (h:SpaceAt w c b U) (hbx:w.heap[bx]?=some (.cells #[.pointer (some ⟨b,0,none⟩)] 80 (0,0))) :
  Calls Tryz.prog 216 #[.int .i64 k,.pointer (some ⟨bx,0,none⟩)] w fun e w'=>e=.returned (.bool (decide (U.length≤k)))∧w'=w:=by
 obtain ⟨v,hb,hc,hr⟩:=h
 obtain ⟨A,cap,rfl⟩:=hr.slice
 have c0:=ce0 hb
 have d0:=ce0 hbx
 have i1:¬ (k:Int)<0:=by omega
 clear hb hr hbx hc
 go_enter Tryz.func216,Tryz.ntmps216
 go_wp2
 go_ret
 exact ⟨rfl,rfl⟩
theorem qJK (b off n cap:Nat) (l:List Nat) (x:Nat) (w:World) (hn:n≤l.length) (hbig:l.length≤1000000) (hc:∀ (j:Nat) y,l[j]?=some y→w.cell? ⟨b,off+j,none⟩=some (.int .i64 y)) (hx:x∉l.take n) :
  Calls Tryz.prog 217 #[.slice (some ⟨b,off,none⟩) n cap,.int .i64 x] w fun e w'=>e=.returned (.bool false)∧w'=w:=by
 refine (Tryz.slices_Contains_int b off n cap (l.map fun k:Nat=>(k:Int)) x w (by simpa using hn) (by omega) (fun j hj=>?_)).mono ?_
 ·have hj':j<l.length:=by simpa using hj
  rw [hc j _ (zL hj')]
  simp [hj']
 ·rintro e w' ⟨rfl,h⟩
  refine ⟨?_,h⟩
  congr 2
  rw [← List.map_take]
  rw [Bool.eq_false_iff,ne_eq,List.contains_iff_mem,ze]
  rintro ⟨y,hy,e⟩
  exact hx (by rw [← Int.ofNat.inj e];exact hy)
theorem qIO:∀ args w,(callFunc 216 args).run Tryz.prog w=.ok (.enter 216 args) w:=enters_of Tryz.func216 (by kernel_rfl) rfl
theorem qOR (h:SpaceAt w c b U) {A:Option Addr} {l:List Nat} (hl:RoInts w c A l) (hll:l.length≤1000000) (cap:Nat) (hk:∀ k∈l,k<U.length) (bx:Nat) (hbx:w.heap[bx]?=some (.cells #[.pointer (some ⟨b,0,none⟩)] 80 (0,0))) :
  Calls Tryz.prog 215 #[.slice A l.length cap,.func (.func 216) #[] #[.pointer (some ⟨bx,0,none⟩)]] w fun e w'=>e=.returned (.bool false)∧Below w.heap.size w w':=by
 rcases Nat.eq_zero_or_pos l.length with h0 | h0
 ·rw [h0]
  refine (AnyE.slices_ContainsFunc_empty Tryz.cfInt A cap _ w).mono ?_
  rintro e w' ⟨rfl,rfl⟩
  exact ⟨rfl,zB _ _⟩
 ·obtain ⟨g,off,rfl,hg,hgc,hcells⟩:=hl (by intro e;rw [e] at h0;simp at h0)
  refine (AnyE.slices_ContainsFunc Tryz.cfInt qH4 (fun k=>decide (U.length≤k)) _ _ qIO g off l.length cap l w (fun W x hb=>?_) (zq _) (by omega) (fun j hj=>by
   rw [hcells j _ (zL hj)]
   simp [hj])).mono ?_
  ·refine (qNL x bx (h.ext (Ext.of_below hb c S0) rfl rfl) ((hb.block _ (qAa hbx)).trans hbx)).mono ?_
   rintro e w' ⟨rfl,rfl⟩
   exact ⟨rfl,0,rfl⟩
  ·rintro e w' ⟨rfl,q,rfl⟩
   refine ⟨?_,Below.drewN (zB _ _) q⟩
   congr 2
   rw [zm,List.any_eq_false]
   intro x hx
   have:=hk x hx
   simp
   omega
theorem qOW (h:SpaceAt w c b U) (hU:U.length≤1000000) {A:Option Addr} {l:List Nat} (hl:RoInts w c A l) (hll:l.length≤1000000) (cap:Nat) (hcap:l.length≤cap) (hnd:l.Nodup) (hon:∀ k∈l,U[k]?=some true) :
  Calls Tryz.prog 168 #[.pointer (some ⟨b,0,none⟩),.slice A l.length cap] w fun e w'=>e=.returned .nilIface∧∃ c2,Ext w w' c c2 (S1 .used)∧SpaceAt w' c2 b (qBn U false l):=by
 have hk:∀ k∈l,k<U.length:=fun k hk=>(zM.1 (hon k hk)).1
 have e0:=Ext.made w c S0 (.cells #[.pointer (some ⟨b,0,none⟩)] 80) .free
 have HCF:=Hh (qAm c w.heap.size .free)
 have hbx:=zK1 w (.cells #[.pointer (some ⟨b,0,none⟩)] 80)
 have HC:=Hh (qOR (h.ext e0 rfl rfl) (hl.ext e0 rfl) hll cap hk w.heap.size hbx)
 have HE0:=Hh e0
 have HBX:=Hh hbx
 have HS:=Hh h
 have HL:=Hh hl
 have HN:=Hh hnd
 have HON:=Hh hon
 clear h hl hnd hon hk e0 hbx
 generalize qAs c w.heap.size .free=c1 at *
 go_enter Tryz.func168,Tryz.ntmps168
 go_upto_region 3 with (go_at_call 215;refine HC.out.mono ?_;rintro ev w2 ⟨rfl,hb2⟩)
 have e2:=HE0.out.trans (Ext.of_below hb2 c1 S0)
 obtain ⟨v,hb',hc',hr⟩:=HS.out.ext e2 rfl rfl
 obtain ⟨A3,cap3,rfl⟩:=hr.slice
 have HV:=Hh (SpaceV.mk hb' hc' hr)
 have HL2:=Hh (HL.out.ext e2 rfl)
 have HB2:=Hh ((hb2.block _ (qAa HBX.out)).trans HBX.out)
 have HE2:=Hh (e2.mono (S':=S1 .used) (fun _ _=>rfl))
 clear hb' hr hb2 e2 hc'
 go_wp2_with fail
 go_loopw [15] (fun a wr=>wr=w2∧∃ i:Nat,i≤l.length∧a=.int .i64 i) (fun a _=>l.length-(intOf a).toNat)
 case atStart=>exact ⟨rfl,0,zx _,rfl⟩
 case round =>
  obtain ⟨rfl,i,hi,rfl⟩:=hrel
  by_cases hil:i<l.length
  ·have i1:(i:Int)<(l.length:Int):=by omega
   have i2:(0:Int)≤(i:Int):=by omega
   obtain ⟨g,off,rfl,hg,hgc,hcells⟩:=HL2.out (by intro e;rw [e] at hil;simp at hil)
   have HCI:=Hh (fun x hx=>qJK g off i cap l x wr hi hll hcells hx)
   have q0:=hcells i _ (zL hil)
   have HX:=Hh (show l[i]∉l.take i from fun hm=>by
    obtain ⟨j,hj,e⟩:=List.mem_take_iff_getElem.1 hm
    have h1:=(List.getElem_inj HN.out).1 e
    omega)
   have hOI:=HON.out _ (zO hil)
   generalize l[i]=k at *
   have hkU:=(zM.1 hOI).1
   obtain ⟨g3,cap4,e3,hg3,hgl3,_,_⟩:=HV.out.row.pos (by omega)
   simp only [zC1] at e3
   obtain ⟨rfl,_,rfl⟩:=e3
   have c0:=ce0 HV.out.own
   have d0:=ce0 HB2.out
   have r0:wr.cell? ⟨g3,k,none⟩=some (.bool true):=by
    rw [HV.out.row.cellAt k (by omega),zN,hOI]
    rfl
   have i3:(k:Int)<(U.length:Int):=by omega
   have i4:(0:Int)≤(k:Int):=by omega
   have i5:i≤cap:=by omega
   have i6:(i:Int)≤(cap:Int):=by omega
   clear hcells hOI
   go_wp2_with (go_at_call 217;refine (HCI.out _ HX.out).mono ?_;rintro ev wz ⟨rfl,rfl⟩)
   go_roundw
   case rel=>exact ⟨trivial,i+1,hil,by go_num⟩
   case measure=>simp [intOf];omega
  ·have i1:¬ (i:Int)<(l.length:Int):=by omega
   obtain ⟨wo,rfl⟩:∃ x:World,x=wr:=⟨_,rfl⟩
   go_wp2_with fail
   go_loopw [39] (fun a wq=>∃ i:Nat,i≤l.length∧a=.int .i64 i∧Hid (Ext wo wq c1 c1 (S1 .used))∧Hid (SpaceV wq c1 b (.slice A3 U.length cap3) U.length (qBn U false (l.take i)))) (fun a _=>l.length-(intOf a).toNat)
   case atStart=>exact ⟨0,zx _,rfl,Hh (Ext.refl _ _ _),by simpa [qBn] using HV⟩
   case round =>
    obtain ⟨i,hi,rfl,HEq,HVq⟩:=hrel
    by_cases hil:i<l.length
    ·have i1:(i:Int)<(l.length:Int):=by omega
     have i2:(0:Int)≤(i:Int):=by omega
     obtain ⟨g,off,rfl,hg,hgc,hcells⟩:=(HL2.out.ext HEq.out rfl) (by intro e;rw [e] at hil;simp at hil)
     have q0:=hcells i _ (zL hil)
     have HT:=Hh (zo hil)
     have hkU:=(zM.1 (HON.out _ (zO hil))).1
     generalize l[i]=k at *
     obtain ⟨g3,cap4,e3,hg3,hgl3,_,_⟩:=HVq.out.row.pos (by omega)
     simp only [zC1] at e3
     obtain ⟨rfl,_,rfl⟩:=e3
     have c0:=ce0 HVq.out.own
     have d0:=ce0 (HEq.out.kept HB2.out HCF.out rfl).1
     have r0:∃ u,wr.cell? ⟨g3,k,none⟩=some u:=by
      have hl:=HVq.out.row.length
      have:=HVq.out.row.cellAt k (by omega)
      rw [zL (by omega)] at this
      exact ⟨_,this⟩
     obtain ⟨u0,r0⟩:=r0
     have f0:=HVq.out.row.frozenAt k
     have i3:(k:Int)<(U.length:Int):=by omega
     have i4:(0:Int)≤(k:Int):=by omega
     clear hcells
     go_wp2
     go_roundw
     case rel =>
      obtain ⟨h3,e3⟩:=HVq.out.row.stored k (.bool false)
      refine ⟨i+1,hil,by go_num,Hh (HEq.out.trans e3),Hh ⟨(e3.kept HVq.out.own HVq.out.col rfl).1,HVq.out.col,?_⟩⟩
      rw [HT.out,qCz]
      simpa [qBn,List.map_set] using h3
     case measure=>simp [intOf];omega
    ·have i1:¬ (i:Int)<(l.length:Int):=by omega
     have HT:=Hh (show l.take i=l from zn (by omega))
     rw [HT.out] at HVq
     go_wp2
     go_ret
     exact ⟨rfl,c1,HE2.out.trans HEq.out,HVq.out.at' (qBi _ _ _)⟩
end
end Go.Proofs.YtceklhjomhjipaaGreatDoor
namespace Go.Proofs.YtceklhjomhjipaaGreatDoor
open Go.RowKit Go.Sort Stl
theorem qDe (w:World):(zeroValue 181).run Tryz.prog w=.ok (.pointer none) w:=by kernel_rfl
section
variable {w:World} {c:Nat→Col} {b:Nat} {T:Tab}
theorem qMX {bd bs bm:Nat} {st:Nat→Nat} (h:TabIn w c b T bd bs bm st) :
  Calls Tryz.prog 83 #[.pointer (some ⟨b,0,none⟩)] w fun e w'=>e=.returned (.pointer (some ⟨bd,0,none⟩))∧w'=w:=by
 have c0:=ce0 h.own
 clear h
 go_enter Tryz.func83,Tryz.ntmps83
 go_wp2
 go_ret
 exact ⟨rfl,rfl⟩
theorem qFY (h:TabAt w c b T) (hU:T.disk.length≤1000000) :
  Calls Tryz.prog 87 #[.pointer (some ⟨b,0,none⟩)] w fun e w'=>e=.returned (.int .i64 T.free.length)∧Below w.heap.size w w':=by
 obtain ⟨bd,bs,bm,st,h⟩:=h
 have c1:=ce1 h.own
 have HS:=Hh h.space
 have HO:=Hh (qCU T)
 clear h
 have hU2:(qAX T).length≤1000000:=by rw [qAq];exact hU
 go_enter Tryz.func87,Tryz.ntmps87
 go_wp2_with (go_at_call 146;refine (qIB HS.out hU2).mono ?_;rintro ev w2 ⟨rfl,hb⟩)
 go_ret
 exact ⟨by rw [← HO.out];rfl,hb⟩
theorem TabIn.cells {bd bs bm:Nat} {st:Nat→Nat} (h:TabIn w c b T bd bs bm st) {n:Nat} {x:Ino} (hx:T.at_ n=some x):∃ A cap,w.heap[st n]?=some (.cells (qAz x A cap) 71 (0,0))∧c (st n)=.stat n∧x.blocks.length≤cap∧RoInts w c A x.blocks:=h.stats n x hx
theorem TabIn.relink {bd bs bm:Nat} {st:Nat→Nat} (h:TabIn w c b T bd bs bm st) {n:Nat} {x:Ino} (hx:T.at_ n=some x) (m:Nat) :
  TabIn (w.setCell ⟨st n,1,none⟩ (.int .i64 m)) c b { T with l:=T.l.set n (some { x with links:=m }) } bd bs bm st∧Ext w (w.setCell ⟨st n,1,none⟩ (.int .i64 m)) c c (S1 (.stat n)):=by
 obtain ⟨A,cap,h1,h2,h3,h4⟩:=h.cells hx
 obtain ⟨h5,e⟩:=Ext.cell h1 h2 1 (.int .i64 m)
 have hn:=qDR hx
 have hat:∀ k,Tab.at_ { T with l:=T.l.set n (some { x with links:=m }) } k=if k=n then some { x with links:=m } else T.at_ k:=fun k=>qHf T.l n _ hn k
 have hu:qAX { T with l:=T.l.set n (some { x with links:=m }) }=qAX T:=qFl rfl fun k=>by
  rw [hat]
  by_cases hk:k=n
  ·subst hk;rw [zM1 rfl,hx];rfl
  ·rw [zL1 hk]
 refine ⟨⟨(e.kept h.own h.col rfl).1,h.col,h.disk.ext e rfl rfl,by rw [hu];exact h.space.ext e rfl rfl,h.mcol,?_,?_⟩,e⟩
 ·have:=(h.map.ext e h.mcol rfl).congr (g:=qAF { T with l:=T.l.set n (some { x with links:=m }) } st) (fun k=>by
   unfold qAF
   rw [hat]
   by_cases hk:k=n
   ·subst hk;rw [zM1 rfl,hx];rfl
   ·rw [zL1 hk])
  simpa using this
 ·intro k y hy
  rw [hat] at hy
  by_cases hk:k=n
  ·subst hk
   rw [zM1 rfl] at hy
   cases hy
   exact ⟨A,cap,by simpa [qAz] using h5,h2,h3,h4.ext e rfl⟩
  ·rw [zL1 hk] at hy
   exact (h.stats k y hy).ext e (qBm (fun e=>hk (by injection e))) rfl
theorem qOJ (h:TabAt w c b T) (n:Nat) (hn:n≤1000000) {x:Ino} (hx:T.at_ n=some x) (hl:x.links≤1000000000) :
  Calls Tryz.prog 224 #[.pointer (some ⟨b,0,none⟩),.int .i64 n] w fun e w'=>e=.returned .nilIface∧Ext w w' c c (S1 (.stat n))∧TabAt w' c b { T with l:=T.l.set n (some { x with links:=x.links+1 }) }:=by
 obtain ⟨bd,bs,bm,st,h⟩:=h
 obtain ⟨A,cap,h1,h2,h3,h4⟩:=h.cells hx
 have hsx:qAF T st n=some (.pointer (some ⟨st n,0,none⟩)):=by unfold qAF;rw [hx];rfl
 have hlk:=h.map.getOk (t:=84) okN Tryz.underlying84 (qDe w) (i:=n) (by omega)
 rw [hsx] at hlk
 simp only [zy,Option.isSome_some,mkN] at hlk
 have H:=Hh h
 have c2:=ce2 h.own
 have q1:=ce1 h1
 have f1:=qAb h1 1
 have HX:=Hh hx
 clear h h1 h2 h3 h4 hsx hx
 go_enter Tryz.func224,Tryz.ntmps224
 go_wp2
 go_ret
 obtain ⟨h5,e5⟩:=H.out.relink HX.out (x.links+1)
 exact ⟨rfl,e5,bd,bs,bm,st,h5⟩
theorem TabIn.gone {bd bs bm:Nat} {st:Nat→Nat} {w2:World} {c2:Nat→Col} (h:TabIn w c b T bd bs bm st) {n:Nat} {x:Ino} (hx:T.at_ n=some x) (ht:qBl T) (e:Ext w w2 c c2 (fun y=>decide (y=.used)||decide (y=.tabMap)||decide (y=.stat n)))
  (hm:qDf w2 bm T.l.length (fun j=>if j=n then none else qAF T st j)) (hmc:c2 bm=.tabMap) (hs:SpaceAt w2 c2 bs (qBn (qAX T) false x.blocks)):TabIn w2 c2 b { T with l:=T.l.set n none } bd bs bm st:=by
 have hn:=qDR hx
 have hat:∀ k,Tab.at_ { T with l:=T.l.set n none } k=if k=n then none else T.at_ k:=fun k=>qHf T.l n _ hn k
 refine ⟨(e.kept h.own h.col rfl).1,(e.kept h.own h.col rfl).2,h.disk.ext e rfl rfl,by rw [qJN ht hx];exact hs,hmc,?_,?_⟩
 ·have:=hm.congr (g:=qAF { T with l:=T.l.set n none } st) (fun k=>by
   unfold qAF
   rw [hat]
   by_cases hk:k=n
   ·simp [hk]
   ·simp [hk])
  simpa using this
 ·intro k y hy
  rw [hat] at hy
  by_cases hk:k=n
  ·rw [zM1 hk] at hy;cases hy
  ·rw [zL1 hk] at hy
   refine (h.stats k y hy).ext e ?_ rfl
   simp [hk]
theorem qG8 (h:TabAt w c b T) (ht:qBl T) (hD:T.disk.length≤1000000) (n:Nat) (hn:n≤1000000) {x:Ino} (hx:T.at_ n=some x) (hl:x.links≤1000000000) :
  Calls Tryz.prog 119 #[.pointer (some ⟨b,0,none⟩),.int .i64 n] w fun e w'=>e=.returned .nilIface∧∃ c2,Ext w w' c c2 qMd∧TabAt w' c2 b { T with l:=T.l.set n (if x.links=1 then none else some { x with links:=x.links-1 }) }:=by
 obtain ⟨bd,bs,bm,st,h⟩:=h
 obtain ⟨A,cap,h1,h2,h3,h4⟩:=h.cells hx
 have hsx:qAF T st n=some (.pointer (some ⟨st n,0,none⟩)):=by unfold qAF;rw [hx];rfl
 have hlk:=h.map.getOk (t:=84) okN Tryz.underlying84 (qDe w) (i:=n) (by omega)
 rw [hsx] at hlk
 simp only [zy,Option.isSome_some,mkN] at hlk
 have H:=Hh h
 have HT:=Hh ht
 have c2:=ce2 h.own
 have q1:=ce1 h1
 have f1:=qAb h1 1
 have HX:=Hh hx
 have hl1:=ht.links n x hx
 have i1:(x.links:Int)-1=((x.links-1:Nat):Int):=by omega
 clear h h1 h2 h3 h4 hsx hx ht
 go_enter Tryz.func119,Tryz.ntmps119
 go_upto_region 5 with fail
 obtain ⟨H1,e1⟩:=H.out.relink HX.out (x.links-1)
 have H1':=Hh H1
 have HE1:=Hh e1
 obtain ⟨A',cap',h1,h2,h3,h4⟩:=H.out.cells HX.out
 have q1:(w.setCell ⟨st n,1,none⟩ (.int .i64 ((x.links-1:Nat):Int))).cell? ⟨st n,1,none⟩=some (.int .i64 ((x.links-1:Nat):Int)):=by
  rw [zJ1 _ (st n) 1 _ _ _ (Ext.cell h1 h2 1 _).1];rfl
 have q3:(w.setCell ⟨st n,1,none⟩ (.int .i64 ((x.links-1:Nat):Int))).cell? ⟨st n,3,none⟩=some (.slice A' x.blocks.length cap'):=by
  rw [zJ1 _ (st n) 3 _ _ _ (Ext.cell h1 h2 1 _).1];rfl
 have HB:=Hh (Ext.cell h1 h2 1 (.int .i64 ((x.links-1:Nat):Int))).1
 have HRO:=Hh (h4.ext e1 rfl)
 have HC3:=Hh h3
 clear H1 e1 hlk c2 f1 h1 h2 h3 h4
 generalize w.setCell ⟨st n,1,none⟩ (.int .i64 ((x.links-1:Nat):Int))=W1 at *
 by_cases hy:x.links=1
 case neg =>
  have HY:=Hh hy
  have j1:¬ ((x.links-1:Nat):Int)=0:=by omega
  clear hy
  go_wp2
  go_ret
  exact ⟨rfl,c,HE1.out.mono (S':=qMd) (qAE rfl),bd,bs,bm,st,H1'.out⟩
 case pos =>
  have j1:x.links-1=0:=by omega
  rw [j1] at q1
  rw [j1]
  have HY:=Hh hy
  clear hy j1 i1
  have HS1:=Hh (H.out.space.ext HE1.out rfl rfl)
  have HM1:=Hh (H.out.map.ext HE1.out H.out.mcol rfl)
  have hw:=HE1.out.kept H.out.own H.out.col rfl
  have c2:=ce2 hw.1
  have HW:=Hh hw
  clear hw
  go_upto_region 7 with (at_delete;refine qEw rfl _ _ 84 181 rfl okN Tryz.underlying84 rfl HM1.out n (by omega) rfl ?_;intro W2 hmap hturn)
  have he2:=Ext.turned hturn (c:=c) H.out.mcol
  have HE2:=Hh he2
  have HMP:=Hh hmap
  have HW2:=Hh (he2.kept HW.out.1 HW.out.2 rfl)
  have HB2:=Hh (he2.kept HB.out (H.out.stats n x HX.out).choose_spec.choose_spec.2.1 rfl)
  have c1:=ce1 HW2.out.1
  have q3':W2.cell? ⟨st n,3,none⟩=some (.slice A' x.blocks.length cap'):=by rw [zJ1 W2 (st n) 3 _ _ _ HB2.out.1];rfl
  clear hturn hmap he2 c2 q1 q3
  have HS2:=Hh (HS1.out.ext (HE2.out.trans ((Ext.refl W2 c (S1 .tabMap)).drew)) rfl rfl)
  have HR2:=Hh (HRO.out.ext (HE2.out.trans ((Ext.refl W2 c (S1 .tabMap)).drew)) rfl)
  have hbl:x.blocks.length≤1000000:=by rw [HT.out.need n x HX.out];have:=HT.out.bytes n x HX.out;unfold qAA;omega
  have hU:(qAX T).length≤1000000:=by rw [qAq];exact hD
  have HON:=Hh (show ∀ k∈x.blocks,(qAX T)[k]?=some true from fun k hk=>by
   rw [qCT (HT.out.inside n x HX.out k hk)]
   exact congrArg some (qAr.2 ⟨n,x,HX.out,hk⟩))
  have HND:=Hh (HT.out.nodup n x HX.out)
  go_region_held3 (fun w'=>w'.cell? ⟨b,1,none⟩=some (.pointer (some ⟨bs,0,none⟩))∧w'.cell? ⟨st n,3,none⟩=some (.slice A' x.blocks.length cap'))
   (first
    | exact ⟨c1,q3'⟩
    | go_keep)
   (first
    | (go_at_call 168;refine (qOW HS2.out hU HR2.out hbl cap' HC3.out HND.out HON.out).mono ?_;rintro ev W4 ⟨rfl,c4,he4,hs4⟩;have c1':W4.cell? ⟨b,1,none⟩=some (.pointer (some ⟨bs,0,none⟩)):=zJ1 W4 b 1 _ _ _ (he4.kept HW2.out.1 HW2.out.2 rfl).1;have q3'':W4.cell? ⟨st n,3,none⟩=some (.slice A' x.blocks.length cap'):=zJ1 W4 (st n) 3 _ _ _ (he4.kept HB2.out.1 HB2.out.2 rfl).1)
    | fail)
  have HG:=Hh (TabIn.gone H.out HX.out HT.out
   ((((HE1.out.mono (S':=fun y=>decide (y=.used)||decide (y=.tabMap)||decide (y=.stat n)) (qAE (by simp))).then HE2.out (qAE (by simp))).drew).then he4 (qAE (by simp)))
   (HMP.out.ext (((Ext.refl W2 c (S1 .used)).drew).trans he4) H.out.mcol rfl)
   ((((Ext.refl W2 c (S1 .used)).drew).trans he4).col HMP.out.lt H.out.mcol rfl) hs4)
  have HE4:=Hh (((((HE1.out.mono (S':=qMd) (qAE rfl)).then HE2.out (qAE rfl)).drew).then he4 (qAE rfl)))
  clear he4 hs4 c1 q3' c1' q3''
  go_wp2
  go_ret
  exact ⟨rfl,c4,HE4.out,bd,bs,bm,st,HG.out⟩
end
end Go.Proofs.YtceklhjomhjipaaGreatDoor
namespace Stl
def pieces:List Nat→List UInt8→List (Nat×List UInt8)
 | [],_=>[]
 | k::r,s=>(k,qHy (s.take 16))::pieces r (s.drop 16)
theorem qBg:∀ (l:List Nat) (s:List UInt8),(pieces l s).length=l.length
 | [],_=>rfl
 | k::r,s=>by simp [pieces,qBg r]
theorem qIC:∀ (l:List Nat) (s:List UInt8) (i:Nat) (h:i<l.length),(pieces l s)[i]'(by rw [qBg];exact h)=(l[i],qHy ((s.drop (16*i)).take 16))
 | [],_,i,h=>by simp at h
 | k::r,s,0,_=>by simp [pieces]
 | k::r,s,i+1,h=>by
  have:=qIC r (s.drop 16) i (by simpa using h)
  simp only [pieces,List.getElem_cons_succ,this,List.drop_drop]
  rw [show 16+16*i=16*(i+1) by omega]
theorem qJR (l:List Nat) (s:List UInt8) (i:Nat) (h:i<l.length):(pieces l s).take (i+1)=(pieces l s).take i++[(l[i],qHy ((s.drop (16*i)).take 16))]:=by
 rw [zo (by rw [qBg];exact h),qIC l s i h]
theorem qLU {l:List Nat} {s:List UInt8} {x:Nat×List UInt8} (h:x∈pieces l s):x.1∈l:=by
 induction l generalizing s with
 | nil=>simp [pieces] at h
 | cons k r ih =>
  simp only [pieces,zY] at h
  rcases h with rfl | h
  ·simp
  ·exact List.mem_cons_of_mem _ (ih h)
end Stl
namespace Go.Proofs.YtceklhjomhjipaaGreatDoor
open Go.RowKit Go.Sort Stl
theorem qDJ:∀ (l:List Nat) (D:List (List UInt8)) (s:List UInt8),qCd D (pieces l s)=qBu D l s
 | [],_,_=>rfl
 | k::r,D,s=>by
  have:=qDJ r (D.set k (qHy (s.take 16))) (s.drop 16)
  simpa [qCd,pieces,qBu] using this
theorem qH8 (n:Nat):Lib.repeatL [0] n=List.replicate n (0:UInt8):=by
 induction n with
 | zero=>rfl
 | succ n ih=>rw [List.replicate_succ,← ih];rfl
theorem qKb (n:Nat) (hn:n≤1000000) (w:World) :
  Calls Tryz.prog 29 #[.string ⟨#[0]⟩,.int .i64 n] w fun e w'=>e=.returned (.string ⟨(List.replicate n (0:UInt8)).toArray⟩)∧Below w.heap.size w w':=by
 refine (Tryz.strings_Repeat ⟨#[0]⟩ n w (by omega) (by simp [ByteArray.size];omega)).mono ?_
 rintro e w' ⟨rfl,h⟩
 exact ⟨by rw [← qH8],h⟩
section
variable {w:World} {c:Nat→Col} {b:Nat}
theorem qGZ {bd:Nat} {v1 v2:Value} (hb:w.heap[b]?=some (.cells #[.pointer (some ⟨bd,0,none⟩),v1,v2] 86 (0,0))) (hcb:c b=.tab) {D:List (List UInt8)} (hd:DiskAt w c bd D) (hD:D.length≤1000000)
  {A:Option Addr} {l:List Nat} (hl:RoInts w c A l) (hll:l.length≤1000000) (hk:∀ k∈l,k<D.length) (cap:Nat) (data:List UInt8) (hda:data.length≤1000000) :
  Calls Tryz.prog 198 #[.pointer (some ⟨b,0,none⟩),.slice A l.length cap,.string ⟨data.toArray⟩] w fun e w'=>e=.returned (.tuple #[])∧∃ c2,Ext w w' c c2 qC1∧DiskAt w' c2 bd (qBu D l data):=by
 have HB:=Hh hb
 have HL:=Hh hl
 have HK:=Hh hk
 have HD:=Hh hd.waits
 have HC:=Hh hcb
 clear hb hl hk hd hcb
 go_enter Tryz.func198,Tryz.ntmps198
 go_wp2_with fail
 go_loopw [2,11] (fun v a wr=>∃ (i:Nat) (cr:Nat→Col),i≤l.length∧a=.int .i64 i∧v=.string ⟨(data.drop (16*i)).toArray⟩∧Hid (Ext w wr c cr qLB)∧Hid (DiskW wr cr bd D ((pieces l data).take i))) (fun _ a _=>l.length-(intOf a).toNat)
 case atStart=>exact ⟨0,c,zx _,rfl,by simp,Hh (Ext.refl _ _ _),by simpa using HD⟩
 case round =>
  obtain ⟨i,cr,hi,rfl,rfl,HE,HW⟩:=hrel
  have c0:=ce0 (HE.out.kept HB.out HC.out rfl).1
  by_cases hil:i<l.length
  ·have i1:(i:Int)<(l.length:Int):=by omega
   have i2:(0:Int)≤(i:Int):=by omega
   obtain ⟨g,off,rfl,hg,hgc,hcells⟩:=(HL.out.ext HE.out rfl) (by intro e;rw [e] at hil;simp at hil)
   have q0:=hcells i _ (zL hil)
   have HT:=Hh (qJR l data i hil)
   have HKI:=Hh (HK.out _ (zO hil))
   generalize l[i]=k at *
   have HR:=Hh (show data.drop (16*(i+1))=(data.drop (16*i)).drop 16 by rw [List.drop_drop];congr 1)
   have hrl:(data.drop (16*i)).length≤1000000:=by simp;omega
   generalize data.drop (16*i)=r at *
   clear hcells
   obtain ⟨m,hm,hm2⟩:∃ m:Nat,min r.length 16=m∧m≤16:=⟨_,rfl,Nat.min_le_right _ _⟩
   have j1:min (r.length:Int) 16=(m:Int):=by omega
   have e1:(ByteArray.mk r.toArray).extract 0 m=⟨(r.take 16).toArray⟩:=by rw [qBb,← hm];congr 2;rw [List.take_eq_take_iff];omega
   have e2:(ByteArray.mk r.toArray).extract m r.length=⟨(r.drop 16).toArray⟩:=by
    rw [extract_drop,← hm]
    congr 2
    rcases Nat.le_total r.length 16 with h | h
    ·rw [Nat.min_eq_left h,zG (zq _),zG h]
    ·rw [Nat.min_eq_right h]
   have j2:m≤r.length:=by omega
   have j3:(0:Int)≤(m:Int):=by omega
   have hl1:(r.take 16).length=m:=by simp;omega
   have HP:=Hh (show qHy (r.take 16)=r.take 16++List.replicate (16-m) 0 by unfold qHy;rw [hl1])
   generalize r.take 16=s1 at *
   obtain ⟨q,hq⟩:∃ q:Nat,16-m=q:=⟨_,rfl⟩
   have j4:(16:Int)-(m:Int)=(q:Int):=by omega
   rw [hq] at HP
   have j5:IntKind.i64.wrap (q:Int)=(q:Int):=wrap_i64 (by omega) (by omega)
   have hq2:q≤1000000:=by omega
   have HZ:=Hh (qKb q hq2)
   have hzl:(List.replicate q (0:UInt8)).length=q:=by simp
   generalize List.replicate q (0:UInt8)=z at HP HZ hzl
   have hpl:(qHy s1).length=16:=by rw [HP.out];simp;omega
   have s2:ByteArray.mk s1.toArray++ByteArray.mk z.toArray=ByteArray.mk (qHy s1).toArray:=by rw [HP.out];exact ByteArray.mk_append_mk _ _
   have s3:¬ 9223372036854775807<m+q:=by omega
   generalize qHy s1=pd at *
   have hwl:((pieces l data).take i).length≤1000000:=by simp [qBg];omega
   go_upto_region 5 with fail
   clear e1 e2
   have hbl:b<wr.heap.size:=lt_of_cell c0
   have HWd:=Hh (HW.out.ext ((Ext.refl wr cr S0).drew) rfl rfl rfl)
   clear hm hq j1 j2 hda hrl i1 i2 q0 hg hgc hq2 hm2
   go_region_held3 (fun w'=>w'.cell? ⟨b,0,none⟩=some (.pointer (some ⟨bd,0,none⟩)))
    (first
     | exact c0
     | exact c0'
     | exact c0''
     | go_keep)
    (first
     | (go_at_call 29;refine (HZ.out _).mono ?_;rintro ev w2 ⟨rfl,hb2⟩;have c0':=(hb2.cell (p:=⟨b,0,none⟩) hbl).trans c0)
     | (go_at_call 245;refine (qLI (HWd.out.ext (Ext.of_below hb2 cr S0) rfl rfl rfl) k HKI.out hwl pd hpl).mono ?_;rintro ev w3 ⟨rfl,c3,he3,hd3⟩;have c0'':w3.cell? ⟨b,0,none⟩=some (.pointer (some ⟨bd,0,none⟩)):=zJ1 w3 b 0 _ _ _ (((HE.out.drew.trans (Ext.of_below hb2 cr qLB)).trans he3).kept HB.out HC.out rfl).1)
     | fail)
   have HE3:=Hh ((HE.out.drew.trans (Ext.of_below hb2 cr qLB)).trans he3)
   have HD3:=Hh hd3
   have hil2:i<l.length:=hil
   clear hb2 he3 hd3 c0 c0' c0''
   go_wp2
   go_roundw
   case rel=>exact ⟨i+1,c3,hil2,by go_num,by rw [HR.out],HE3,by rw [HT.out];exact HD3⟩
   case measure=>simp [intOf];omega
  ·have i1:¬ (i:Int)<(l.length:Int):=by omega
   have HT:=Hh (show (pieces l data).take i=pieces l data from zn (by rw [qBg];omega))
   rw [HT.out] at HW
   have hpl:(pieces l data).length≤1000000:=by rw [qBg];exact hll
   go_wp2_with (go_at_call 246;refine (qID HW.out (fun x hx=>HK.out _ (qLU hx)) hD hpl).mono ?_;rintro ev w2 ⟨rfl,he2,hd2⟩)
   go_end0
   refine ⟨rfl,cr,(HE.out.mono (S':=qC1) (fun x h=>by unfold qC1 at h;unfold qLB;simp at h ⊢;exact ⟨h.1.1,h.2⟩)).trans he2,?_⟩
   rw [← qDJ]
   exact hd2
end
end Go.Proofs.YtceklhjomhjipaaGreatDoor
