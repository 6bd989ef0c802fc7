/- Texts of this claim, merged: ClosPure, RefsCheck, ByName. -/
import Derived.Test.YtceklhjomhjipaaGreatDoorKm13
import Derived.Test.YtceklhjomhjipaaGreatDoorKm14
set_option maxHeartbeats 16000000
set_option maxRecDepth 1000000
set_option linter.all false
namespace Stl
structure qQe (l:List Pk) (names:List Bytes) (seen:Bytes→Bool) (todo:List Bytes):Prop where
 start:∀ x∈names,seen x=true∨x∈todo
 refs:∀ p∈l,seen p.name=true→∀ x∈p.refs,seen x=true∨x∈todo
 in_seen:∀ x,seen x=true→x∈closure l names
 in_todo:∀ x∈todo,x∈closure l names
def qC3 (l:List Pk) (seen:Bytes→Bool):Nat:=(l.filter fun p=>!seen p.name).length
theorem qLp (l:List Pk) (names:List Bytes):qQe l names (fun _=>false) names :=
 ⟨fun x hx=>.inr hx,fun p _ h=>(by cases h),fun x h=>(by cases h),fun x hx=>qEx l names x hx⟩
theorem qNT {l:List Pk} {names:List Bytes} {seen:Bytes→Bool} {s:Bytes} {r:List Bytes} (h:qQe l names seen (s::r)) (hs:seen s=true):qQe l names seen r:=by
 refine ⟨fun x hx=>?_,fun p hp h1 x hx=>?_,h.in_seen,fun x hx=>h.in_todo x (by simp [hx])⟩
 ·rcases h.start x hx with h1 | h1
  ·exact .inl h1
  ·rcases zY.1 h1 with rfl | h1
   ·exact .inl hs
   ·exact .inr h1
 ·rcases h.refs p hp h1 x hx with h1 | h1
  ·exact .inl h1
  ·rcases zY.1 h1 with rfl | h1
   ·exact .inl hs
   ·exact .inr h1
def qA4 (seen:Bytes→Bool) (s:Bytes):Bytes→Bool:=fun x=>seen x||x==s
theorem qOr {l:List Pk} (hP:qEJ l) {names:List Bytes} {seen:Bytes→Bool} {s:Bytes} {r:List Bytes} (h:qQe l names seen (s::r)) {p:Pk} (hp:p∈l) (hn:p.name=s):qQe l names (qA4 seen s) (r++p.refs):=by
 have hs:s∈closure l names:=h.in_todo s (by simp)
 have put:∀ x,seen x=true∨x∈s::r→qA4 seen s x=true∨x∈r++p.refs:=by
  intro x hx
  rcases hx with h1 | h1
  ·exact .inl (by simp [qA4,h1])
  ·rcases zY.1 h1 with rfl | h1
   ·exact .inl (by simp [qA4])
   ·exact .inr (List.mem_append_left _ h1)
 refine ⟨fun x hx=>put x (h.start x hx),fun q hq h1 x hx=>?_,fun x hx=>?_,fun x hx=>?_⟩
 ·simp only [qA4,Bool.or_eq_true,beq_iff_eq] at h1
  rcases h1 with h1 | h1
  ·exact put x (h.refs q hq h1 x hx)
  ·have:q=p:=qA8 (fun z:Pk=>z.name) hP.names hq hp (h1.trans hn.symm)
   subst this
   exact .inr (List.mem_append_right _ hx)
 ·simp only [qA4,Bool.or_eq_true,beq_iff_eq] at hx
  rcases hx with hx | rfl
  ·exact h.in_seen x hx
  ·exact hs
 ·rcases zX.1 hx with hx | hx
  ·exact h.in_todo x (by simp [hx])
  ·exact qDH hP.names hP.refs names p hp (by rw [hn];exact hs) x hx
theorem qGt {l:List Pk} {seen:Bytes→Bool} {s:Bytes} {p:Pk} (hp:p∈l) (hn:p.name=s) (hs:seen s=false):qC3 l (qA4 seen s)+1≤qC3 l seen:=by
 unfold qC3
 have:∀ l:List Pk,p∈l→(l.filter fun p=>!qA4 seen s p.name).length+1≤(l.filter fun p=>!seen p.name).length:=by
  intro l
  induction l with
  | nil=>intro h;cases h
  | cons q r ih =>
   intro h
   have le:∀ r:List Pk,(r.filter fun p=>!qA4 seen s p.name).length≤(r.filter fun p=>!seen p.name).length:=by
    intro r
    induction r with
    | nil=>simp
    | cons a t iht =>
     by_cases h1:seen a.name=true
     ·simpa [zI,qA4,h1] using iht
     ·by_cases h2:a.name=s
      ·simp [zI,qA4,h1,h2]
       simp [qA4] at iht
       split<;>(try simp)<;>omega
      ·simp [zI,qA4,h1,h2]
       simp [qA4] at iht
       omega
   by_cases hq:q.name=s
   ·have:=le r
    simp [zI,qA4,hq,hs]
    simp [qA4] at this
    omega
   ·have hr:p∈r:=by
     rcases zY.1 h with e | e
     ·exact absurd (by rw [← e];exact hn) hq
     ·exact e
    have:=ih hr
    by_cases h1:seen q.name=true
    ·simpa [zI,qA4,h1] using this
    ·simp [zI,qA4,h1,hq]
     simp [qA4] at this
     omega
 exact this l hp
theorem qO0 {l:List Pk} {names:List Bytes} {seen:Bytes→Bool} (h:qQe l names seen []) (x:Bytes):seen x=true↔x∈closure l names:=by
 constructor
 ·exact h.in_seen x
 ·refine qEt (fun y=>seen y=true) (fun y hy=>?_) (fun p hp h1 y hy=>?_) x
  ·rcases h.start y hy with h1 | h1
   ·exact h1
   ·cases h1
  ·rcases h.refs p hp h1 y hy with h1 | h1
   ·exact h1
   ·cases h1
end Stl
namespace Go.Proofs.YtceklhjomhjipaaGreatDoor
open Go.RowKit Go.Sort Go.Shelf Stl
theorem qHV (w:World):(zeroValue 4).run Tryz.prog w=.ok (.bool false) w:=by kernel_rfl
def qBJ (l:List (List UInt8)) (x:List UInt8):Option Value:=if x∈l then some (.bool true) else none
theorem qLL (l:List (List UInt8)) (n bm bx:Nat) (s:List UInt8) (hs:s.length≤1000000) (w:World) (hm:qBj w bm n (qBJ l)) (hbx:w.heap[bx]?=some (.cells #[.map (some bm)] 235 (0,0))) :
  Calls Tryz.prog 257 #[.string ⟨s.toArray⟩,.pointer (some ⟨bx,0,none⟩)] w fun e w'=>e=.returned (.bool (!(decide (s∈l))))∧w'=w:=by
 have d0:w.cell? ⟨bx,0,none⟩=some (.map (some bm)):=zJ1 w bx 0 _ _ _ hbx
 have hlk:=hm.get (t:=235) okS Tryz.underlying235 (qHV w) (i:=s) (by unfold maxLen;omega)
 simp only [mkS] at hlk
 by_cases h:s∈l
 ·have hq:qBJ l s=some (.bool true):=by unfold qBJ;rw [zM1 h]
  rw [hq] at hlk
  simp only [zy] at hlk
  clear hm hbx hq
  have hd:decide (s∈l)=true:=by simpa using h
  rw [hd]
  go_enter Tryz.func257,Tryz.ntmps257
  go_wp2
  go_ret
  exact ⟨rfl,rfl⟩
 ·have hq:qBJ l s=none:=by unfold qBJ;rw [zL1 h]
  rw [hq] at hlk
  simp only [Option.getD_none] at hlk
  clear hm hbx hq
  have hd:decide (s∈l)=false:=by simpa using h
  rw [hd]
  go_enter Tryz.func257,Tryz.ntmps257
  go_wp2
  go_ret
  exact ⟨rfl,rfl⟩
abbrev qKB:={ s:List UInt8 // s.length≤1000000 }
instance:Inhabited qKB:=⟨⟨[],by simp⟩⟩
theorem qHY:∀ args w,(callFunc 257 args).run Tryz.prog w=.ok (.enter 257 args) w:=enters_of Tryz.func257 (by kernel_rfl) rfl
theorem qOF (l:List (List UInt8)) (n bm bx:Nat) (w:World) (hm:qBj w bm n (qBJ l)) (hbx:w.heap[bx]?=some (.cells #[.map (some bm)] 235 (0,0))) {A:Option Addr} {cap:Nat} {rs:List (List UInt8)} (hr:Strs w (.slice A rs.length cap) rs) (hlen:∀ x∈rs,x.length≤1000000) (hrl:rs.length≤1000000) (hin:∀ x∈rs,x∈l) :
  Calls Tryz.prog 207 #[.slice A rs.length cap,.func (.func 257) #[] #[.pointer (some ⟨bx,0,none⟩)]] w fun e w'=>e=.returned (.bool false)∧Below w.heap.size w w':=by
 rcases Nat.eq_zero_or_pos rs.length with h0 | h0
 ·rw [h0]
  refine (AnyE.slices_ContainsFunc_empty Tryz.cfStr A cap _ w).mono ?_
  rintro e w' ⟨rfl,rfl⟩
  exact ⟨rfl,zB _ _⟩
 ·obtain ⟨A',c',e1,h1⟩:=hr
  injection e1 with e1 e2 e3
  subst e1 e3
  obtain ⟨g,off,rfl,hg,hcells⟩:=h1 (by intro e;rw [e] at h0;simp at h0)
  obtain ⟨L,hL⟩:∃ L:List qKB,L.map (fun s=>s.1)=rs:=⟨rs.attach.map fun s=>⟨s.1,hlen s.1 s.2⟩,by rw [zW];exact List.attach_map_subtype_val rs⟩
  subst hL
  rw [zT] at hrl ⊢
  refine (AnyE.slices_ContainsFunc Tryz.cfStr (fun s:qKB=>Value.string ⟨s.1.toArray⟩) (fun s:qKB=>!(decide (s.1∈l))) _ _ qHY g off L.length cap L w (fun W x hb=>?_) (zq _) (by omega) (fun j hj=>by
   rw [hcells j L[j].1 (by simp [hj])]
   rw [getElem!_pos L j hj])).mono ?_
  ·refine (qLL l n bm bx x.1 x.2 W (hm.of_block (hb.block _ hm.lt)) ((hb.block _ (qAa hbx)).trans hbx)).mono ?_
   rintro e w' ⟨rfl,rfl⟩
   exact ⟨rfl,0,rfl⟩
  ·rintro e w' ⟨rfl,q,rfl⟩
   refine ⟨?_,Below.drewN (zB _ _) q⟩
   congr 2
   rw [List.any_eq_false]
   intro x hx
   have:=hin x.1 (ze.2 ⟨x,List.mem_of_mem_take hx,rfl⟩)
   simp [this]
theorem qMC {l:List Pk} (h:qEJ l) {p:Pk} (hp:p∈l):∀ x∈p.refs,isName x=true:=by
 have:∀ (l:List Pk) (ahead:List (List UInt8)),(∀ a∈ahead,isName a=true)→(∀ p∈l,isName p.name=true)→qB6 ahead l→∀ p∈l,∀ x∈p.refs,isName x=true:=by
  intro l
  induction l with
  | nil=>intro _ _ _ _ p hp;cases hp
  | cons q r ih =>
   intro ahead h1 h2 h3 p hp x hx
   rcases zY.1 hp with rfl | hp
   ·rcases h3.1 x hx with rfl | h
    ·exact h2 _ (by simp)
    ·exact h1 _ h
   ·exact ih (q.name::ahead) (fun a ha=>by
     rcases zY.1 ha with rfl | ha
     ·exact h2 _ (by simp)
     ·exact h1 a ha) (fun p hp=>h2 p (by simp [hp])) h3.2 p hp x hx
 exact this l [] (by simp) h.well h.refs p hp
theorem qLm {l:List Pk} (h:qEJ l) {i:Nat} (hi:i<l.length):∀ x∈l[i].refs,x∈l[i].name::(l.map (·.name)).take i:=by
 intro x hx
 have h1:=h.refs
 rw [← List.take_append_drop i l,qBy] at h1
 have h2:=h1.2
 rw [zF hi] at h2
 rcases h2.1 x hx with h3 | h3
 ·simp [h3]
 ·simp only [List.append_nil,List.mem_reverse] at h3
  rw [List.map_take] at h3
  exact List.mem_cons_of_mem _ h3
structure qRb (w wr:World) (bp bm bc:Nat) (cp:Array Value) (l:List (List UInt8)) (j:Nat):Prop where
 below:Below w.heap.size w wr
 own:wr.heap[bp]?=some (.cells cp 200 (0,0))
 cell:wr.heap[bc]?=some (.cells #[.map (some bm)] 235 (0,0))
 map:qBj wr bm (j+1) (qBJ l)
theorem qOk {w:World} {A:Option Addr} {zs:List PX} (h:PacksAt w A zs) (hP:qEJ (zs.map (·.p))) (cap:Nat) (hcap:zs.length≤cap) {i:Nat} (hi:i<zs.length) :
  Calls Tryz.prog 206 #[.slice A zs.length cap,.int .i64 i] w fun ev w'=>ev=.returned .nilIface∧Below w.heap.size w w':=by
 obtain ⟨b,off,rfl,hb,q0,q1,q2,q3,q4,q5⟩:=h.at hi
 have hmm:=@run_makeMap Tryz.prog
 have HP:=Hh hP
 have H:=Hh h
 have i0:(0:Int)≤(i:Int):=by omega
 have i1:(i:Int)<(zs.length:Int):=by omega
 have i2:(i:Int)≤(cap:Int):=by omega
 obtain ⟨x,hx⟩:∃ x,x=zs[i]:=⟨_,rfl⟩
 rw [← hx] at q0 q1 q2 q3 q4 q5
 have hxm:x.p∈zs.map (·.p):=by rw [hx];exact ze.2 ⟨_,zO hi,rfl⟩
 have HX:=Hh hx
 have hnl:x.p.name.length≤1000000:=zr (qD3 (hP.well _ hxm)) (by decide)
 have HXM:=Hh hxm
 have HXR:=Hh (hx▸h.refs _ (zO hi))
 clear hP h hx hxm
 have hb1:=(zB w.heap.size w).alloc (zq _) (.cells #[.string ⟨x.p.name.toArray⟩,.slice x.a x.p.refs.length x.cap,.string x.t0,.string x.t1,.bool x.t2,.slice x.t3 x.t4 x.t5] 200)
 have HB1:=Hh hb1
 have HP1:=Hh (zK1 w (.cells #[.string ⟨x.p.name.toArray⟩,.slice x.a x.p.refs.length x.cap,.string x.t0,.string x.t1,.bool x.t2,.slice x.t3 x.t4 x.t5] 200))
 have HS1:=Hh (show (w.alloc (.cells #[.string ⟨x.p.name.toArray⟩,.slice x.a x.p.refs.length x.cap,.string x.t0,.string x.t1,.bool x.t2,.slice x.t3 x.t4 x.t5] 200)).heap.size=w.heap.size+1 by simp)
 clear hb1
 go_enter Tryz.func206,Tryz.ntmps206
 go_upto_region 2 with fail
 clear q0 q1 q2 q3 q4 q5
 generalize w.alloc (.cells #[.string ⟨x.p.name.toArray⟩,.slice x.a x.p.refs.length x.cap,.string x.t0,.string x.t1,.bool x.t2,.slice x.t3 x.t4 x.t5] 200)=w1 at *
 obtain ⟨W3,hput,hmap,hturn⟩:=(zzMapAt.made w1 Tryz.prog 9 qLE).put okS Tryz.underlying235 (by unfold maxLen;omega) (i:=x.p.name) (by unfold maxLen;omega) (.bool true)
 simp only [mkS] at hput
 have y0:(w1.alloc (.map #[] 0)).cell? ⟨w.heap.size,0,none⟩=some (.string ⟨x.p.name.toArray⟩):=zJ1 _ _ 0 _ _ _ (qAj w1 _ HP1.out)
 have HW2:=Hh (show (w1.alloc (.map #[] 0)).heap.size=w1.heap.size+1 by simp)
 have HB2:=Hh (HB1.out.alloc HB1.out.size (.map #[] 0))
 have HMP:=Hh hmap
 have HTN:=Hh hturn
 have HP2:=Hh (qAj w1 (.map #[] 0) HP1.out)
 clear hmap hturn
 have hbm:w.heap.size<w1.heap.size:=by have:=HS1.out;omega
 have hbc:w1.heap.size<W3.heap.size:=by have:=HTN.out.grown.size;have:=HW2.out;omega
 have HB4:=Hh ((HB2.out.grown HTN.out.grown HB2.out.size (fun k hk=>by injection hk with hk;omega)).alloc (by omega) (.cells #[.map (some w1.heap.size)] 235))
 have HP4:=Hh (qAj W3 (.cells #[.map (some w1.heap.size)] 235) ((HTN.out.grown.block _ (qAa HP2.out) (fun h=>by injection h with h;omega)).trans HP2.out))
 have HC4:=Hh (zK1 W3 (.cells #[.map (some w1.heap.size)] 235))
 have HM4:=Hh ((HMP.out.kept (Below.toGrown ((zB _ W3).alloc (zq _) (.cells #[.map (some w1.heap.size)] 235)) none) (by simp)).congr (g:=qBJ (x.p.name::(zs.map (·.p.name)).take 0)) (fun z=>by simp [qBJ]))
 go_upto_region 3 with fail
 clear hput y0
 generalize W3.alloc (.cells #[.map (some w1.heap.size)] 235)=w4 at *
 generalize hq1:W3.heap.size=bc at *
 generalize hq2:w1.heap.size=bm at *
 clear hq1 hq2
 have hmany:zs.length≤40:=by have:=HP.out.many;simpa using this
 have H0:=Hh (show qRb w w4 w.heap.size bm bc #[.string ⟨x.p.name.toArray⟩,.slice x.a x.p.refs.length x.cap,.string x.t0,.string x.t1,.bool x.t2,.slice x.t3 x.t4 x.t5] (x.p.name::(zs.map (·.p.name)).take 0) 0 from ⟨HB4.out,HP4.out,HC4.out,HM4.out⟩)
 go_wp2_with fail
 go_loopw [22] (fun a wr=>∃ j:Nat,j≤i∧a=.int .i64 j∧Hid (qRb w wr w.heap.size bm bc #[.string ⟨x.p.name.toArray⟩,.slice x.a x.p.refs.length x.cap,.string x.t0,.string x.t1,.bool x.t2,.slice x.t3 x.t4 x.t5] (x.p.name::(zs.map (·.p.name)).take j) j)) (fun a _=>i-(intOf a).toNat)
 case atStart=>exact ⟨0,zx _,rfl,H0⟩
 case round =>
  obtain ⟨j,hji,rfl,HS⟩:=hrel
  by_cases hj:j<i
  ·have hjz:j<zs.length:=by omega
   have k1:(j:Int)<(i:Int):=by omega
   have k0:(0:Int)≤(j:Int):=by omega
   obtain ⟨b',off',e1,hb',s0,s1,s2,s3,s4,s5⟩:=(H.out.later HS.out.below).at hjz
   injection e1 with e1
   injection e1 with e1 e2
   subst e1 e2
   have hym:zs[j].p∈zs.map (·.p):=ze.2 ⟨_,zO hjz,rfl⟩
   have hyl:zs[j].p.name.length≤1000000:=zr (qD3 (HP.out.well _ hym)) (by decide)
   have hne:(zs[j].p.name==x.p.name)=false:=by
    rw [zG1,HX.out]
    intro h
    have hnd:=HP.out.names
    rw [zW] at hnd
    have:=(List.pairwise_iff_getElem.1 hnd) j i (by simpa using hjz) (by simpa using hi) hj
    simp at this
    exact this h
   have HTK:=Hh (show (zs.map (·.p.name)).take (j+1)=(zs.map (·.p.name)).take j++[zs[j].p.name] by
    rw [zo (by simpa using hjz)]
    simp)
   generalize zs[j]=y at *
   have hb5:=(zB wr.heap.size wr).alloc (zq _) (.cells #[.string ⟨y.p.name.toArray⟩,.slice y.a y.p.refs.length y.cap,.string y.t0,.string y.t1,.bool y.t2,.slice y.t3 y.t4 y.t5] 200)
   have HY5:=Hh (zK1 wr (.cells #[.string ⟨y.p.name.toArray⟩,.slice y.a y.p.refs.length y.cap,.string y.t0,.string y.t1,.bool y.t2,.slice y.t3 y.t4 y.t5] 200))
   have HB5:=Hh (HS.out.below.alloc HS.out.below.size (.cells #[.string ⟨y.p.name.toArray⟩,.slice y.a y.p.refs.length y.cap,.string y.t0,.string y.t1,.bool y.t2,.slice y.t3 y.t4 y.t5] 200))
   have HP5:=Hh ((hb5.block _ (qAa HS.out.own)).trans HS.out.own)
   have HC5:=Hh ((hb5.block _ (qAa HS.out.cell)).trans HS.out.cell)
   have HM5:=Hh (HS.out.map.of_block (hb5.block _ HS.out.map.lt))
   have hlo:bc<wr.heap.size:=qAa HS.out.cell
   clear hb5 hym
   go_upto_region 6 with fail
   clear s0 s1 s2 s3 s4 s5
   generalize wr.alloc (.cells #[.string ⟨y.p.name.toArray⟩,.slice y.a y.p.refs.length y.cap,.string y.t0,.string y.t1,.bool y.t2,.slice y.t3 y.t4 y.t5] 200)=w5 at *
   have r0:w5.cell? ⟨wr.heap.size,0,none⟩=some (.string ⟨y.p.name.toArray⟩):=zJ1 w5 _ 0 _ _ _ HY5.out
   have z0:w5.cell? ⟨w.heap.size,0,none⟩=some (.string ⟨x.p.name.toArray⟩):=zJ1 w5 _ 0 _ _ _ HP5.out
   have cc:w5.cell? ⟨bc,0,none⟩=some (.map (some bm)):=zJ1 w5 _ 0 _ _ _ HC5.out
   have hi6:=hi
   go_wp2_with (at_mapUpdate;refine qBf rfl _ _ _ 235 4 rfl okS Tryz.underlying235 rfl HM5.out (by have:=HP.out.many;simp at this;unfold maxLen;omega) y.p.name (by unfold maxLen;omega) rfl (.bool true) rfl ?_;intro W6 hmap6 hturn6)
   refine ⟨⟨j+1,hj,by go_num,Hh ⟨?_,?_,?_,?_⟩⟩,by simp [intOf];omega⟩
   ·exact HB5.out.grown hturn6.grown HB5.out.size (fun k hk=>by injection hk with hk;omega)
   ·exact (hturn6.grown.block _ (qAa HP5.out) (fun h=>by injection h with h;omega)).trans HP5.out
   ·exact (hturn6.grown.block _ (qAa HC5.out) (fun h=>by injection h with h;omega)).trans HC5.out
   ·refine hmap6.congr fun z=>?_
    rw [HTK.out]
    unfold qBJ
    by_cases hz:z=y.p.name
    ·subst hz
     simp
    ·rw [zL1 hz]
     simp [hz]
  ·have k1:¬ (j:Int)<(i:Int):=by omega
   obtain rfl:j=i:=by omega
   have y1:wr.cell? ⟨w.heap.size,1,none⟩=some (.slice x.a x.p.refs.length x.cap):=zJ1 wr _ 1 _ _ _ HS.out.own
   have hfew:(x.p.refs.length:Int)≤20:=by have:=HP.out.few _ HXM.out;omega
   obtain ⟨wo,rfl⟩:∃ wo:World,wo=wr:=⟨_,rfl⟩
   have hS0:=HXR.out.2.later HS.out.below
   go_wp2_with fail
   go_loopw [9] (fun a wr=>Below wo.heap.size wo wr∧∃ k:Nat,k≤x.p.refs.length∧a=.int .i64 ((k+1:Nat):Int)) (fun a _=>x.p.refs.length+2-(intOf a).toNat)
   case atStart=>exact ⟨zB _ _,0,zx _,rfl⟩
   case round =>
    obtain ⟨hbo,k,hk,rfl⟩:=hrel
    have HBO:=Hh hbo
    have y1:wr.cell? ⟨w.heap.size,1,none⟩=some (.slice x.a x.p.refs.length x.cap):=zJ1 wr _ 1 _ _ _ ((hbo.block _ (qAa HS.out.own)).trans HS.out.own)
    have hS1:=hS0.later hbo
    by_cases hlt:k+1<x.p.refs.length
    ·have i3:((k+1:Nat):Int)<(x.p.refs.length:Int):=by omega
     have i4:(k:Int)+1<(x.p.refs.length:Int):=by omega
     have i5:(0:Int)≤(k:Int):=by omega
     obtain ⟨A',c',e1,h1⟩:=hS1
     injection e1 with e1 e2 e3
     obtain ⟨g,o,e4,hg,hcell⟩:=h1 (by intro e;rw [e] at hlt;simp at hlt)
     rw [e1,e4] at y1
     have hk0:k<x.p.refs.length:=by omega
     have m1:=hcell (k+1) _ (zL hlt)
     have m0:=hcell k _ (zL hk0)
     have hr:=(List.pairwise_iff_getElem.1 (HP.out.rise _ HXM.out)) k (k+1) hk0 hlt (Nat.lt_succ_self _)
     obtain ⟨q1,q2⟩:=qHi hr
     generalize x.p.refs[k]=ra at *
     generalize x.p.refs[k+1]=rb at *
     clear e1 e2 e3 e4 h1 hcell hr hbo
     go_wp2_with fail
     go_quiet (fail)
     go_wp2
     go_roundw
     case rel=>exact ⟨Below.drewN HBO.out _,k+1,by omega,by go_num⟩
     case measure=>simp [intOf];omega
    ·have i3:¬ ((k+1:Nat):Int)<(x.p.refs.length:Int):=by omega
     have i4:¬ (k:Int)+1<(x.p.refs.length:Int):=by omega
     have HAA:=Hh (qOF _ _ bm bc wr (HS.out.map.of_block (hbo.block _ HS.out.map.lt)) ((hbo.block _ (qAa HS.out.cell)).trans HS.out.cell) hS1 (fun z hz=>zr (qD3 (qMC HP.out HXM.out z hz)) (by decide)) (by have:=HP.out.few _ HXM.out;omega) (fun z hz=>by
      have:=qLm HP.out (i:=j) (by simpa using hi) z (by simpa [HX.out] using hz)
      rw [show (zs.map (·.p)).map (·.name)=zs.map (·.p.name) by rw [zW];rfl] at this
      rw [HX.out]
      simpa using this))
     clear hbo hS1
     go_wp2_with (go_at_call 207;refine HAA.out.mono ?_;rintro ev w7 ⟨rfl,hb7⟩)
     go_ret
     exact ⟨rfl,HS.out.below.trans ((HBO.out.trans (hb7.mono HBO.out.size)).mono HS.out.below.size)⟩
theorem qIu {w:World} {A:Option Addr} {zs:List PX} (h:PacksAt w A zs) (hP:qEJ (zs.map (·.p))) (cap:Nat) (hcap:zs.length≤cap) :
  Calls Tryz.prog 150 #[.slice A zs.length cap] w fun ev w'=>ev=.returned .nilIface∧Below w.heap.size w w':=by
 have HP:=Hh hP
 have H:=Hh h
 have hmany:zs.length≤40:=by have:=hP.many;simpa using this
 have i40:(zs.length:Int)≤40:=by omega
 clear hP h
 go_enter Tryz.func150,Tryz.ntmps150
 go_wp2_with fail
 go_loopw [12] (fun a wr=>Below w.heap.size w wr∧∃ j:Nat,j≤zs.length∧a=.int .i64 j) (fun a _=>zs.length-(intOf a).toNat)
 case atStart=>exact ⟨zB _ _,0,zx _,rfl⟩
 case round =>
  obtain ⟨hbr,j,hj0,rfl⟩:=hrel
  have HBR:=Hh hbr
  by_cases hj:j<zs.length
  ·have k1:(j:Int)<(zs.length:Int):=by omega
   have k0:(0:Int)≤(j:Int):=by omega
   obtain ⟨b,off,hA,hb',s0,s1,s2,s3,s4,s5⟩:=(H.out.later hbr).at hj
   subst hA
   have hym:zs[j].p∈zs.map (·.p):=ze.2 ⟨_,zO hj,rfl⟩
   have hyn:=HP.out.well _ hym
   have hyl:zs[j].p.name.length≤1000000:=zr (qD3 hyn) (by decide)
   have HCK:=Hh (fun (w5:World) (hb:Below w.heap.size w w5)=>qOk (H.out.later hb) HP.out cap hcap hj)
   have HYN:=Hh hyn
   generalize zs[j]=y at s0 s1 s2 s3 s4 s5 hyl HYN
   have hb5:=(zB wr.heap.size wr).alloc (zq _) (.cells #[.string ⟨y.p.name.toArray⟩,.slice y.a y.p.refs.length y.cap,.string y.t0,.string y.t1,.bool y.t2,.slice y.t3 y.t4 y.t5] 200)
   have HY5:=Hh (zK1 wr (.cells #[.string ⟨y.p.name.toArray⟩,.slice y.a y.p.refs.length y.cap,.string y.t0,.string y.t1,.bool y.t2,.slice y.t3 y.t4 y.t5] 200))
   have HB5:=Hh (hbr.alloc hbr.size (.cells #[.string ⟨y.p.name.toArray⟩,.slice y.a y.p.refs.length y.cap,.string y.t0,.string y.t1,.bool y.t2,.slice y.t3 y.t4 y.t5] 200))
   clear hb5 hym hyn hbr
   go_upto_region 6 with fail
   clear s0 s1 s2 s3 s4 s5
   generalize wr.alloc (.cells #[.string ⟨y.p.name.toArray⟩,.slice y.a y.p.refs.length y.cap,.string y.t0,.string y.t1,.bool y.t2,.slice y.t3 y.t4 y.t5] 200)=w5 at *
   go_upto_region 7 with (go_at_call 206;refine (HCK.out w5 HB5.out).mono ?_;rintro ev w6 ⟨rfl,hb6⟩;have HB6:=Hh hb6;clear hb6)
   have HY6:=Hh ((HB6.out.block _ (qAa HY5.out)).trans HY5.out)
   have z0:w6.cell? ⟨wr.heap.size,0,none⟩=some (.string ⟨y.p.name.toArray⟩):=zJ1 w6 _ 0 _ _ _ HY6.out
   have HNM:=Hh (qDp y.p.name w6 (by omega))
   rw [HYN.out] at HNM
   go_wp2_with (go_at_call 74;refine HNM.out.mono ?_;rintro ev w7 ⟨rfl,hb7⟩;have HB7:=Hh hb7;clear hb7)
   go_roundw
   case rel=>exact ⟨HB5.out.trans ((HB6.out.trans (HB7.out.mono HB6.out.size)).mono HB5.out.size),j+1,hj,by go_num⟩
   case measure=>simp [intOf];omega
  ·have k1:¬ (j:Int)<(zs.length:Int):=by omega
   go_wp2
   go_ret
   exact ⟨rfl,HBR.out⟩
theorem qKy (w:World):(zeroValue 200).run Tryz.prog w=.ok (.agg #[.string ⟨#[]⟩,.slice none 0 0,.string ⟨#[]⟩,.string ⟨#[]⟩,.bool false,.slice none 0 0]) w:=by kernel_rfl
theorem qLt (v0 v1 v2 v3 v4 v5:Value) (w:World):(Instr.field 200 (.agg #[v0,v1,v2,v3,v4,v5]) 0).run Tryz.prog w=.ok v0 w:=by kernel_rfl
theorem qLO (v0 v1 v2 v3 v4 v5:Value) (w:World):(Instr.field 200 (.agg #[v0,v1,v2,v3,v4,v5]) 1).run Tryz.prog w=.ok v1 w:=by kernel_rfl
def qHT (y:PX):Value:=.agg #[.string ⟨y.p.name.toArray⟩,.slice y.a y.p.refs.length y.cap,.string y.t0,.string y.t1,.bool y.t2,.slice y.t3 y.t4 y.t5]
def qDI (zs:List PX) (x:List UInt8):Option Value:=(zs.find? fun y=>y.p.name==x).map qHT
theorem qG9 {zs:List PX} {x:List UInt8} (h:x∈zs.map (·.p.name)):∃ y∈zs,y.p.name=x∧qDI zs x=some (qHT y):=by
 unfold qDI
 cases hf:zs.find? fun y=>y.p.name==x with
 | none =>
  obtain ⟨y,hy,hx⟩:=ze.1 h
  have:=List.find?_eq_none.1 hf y hy
  simp at this
  exact absurd hx this
 | some y=>exact ⟨y,zg hf,by simpa using List.find?_some hf,rfl⟩
theorem qJ4 {zs:List PX} {y:PX} (h:y.p.name∉zs.map (·.p.name)) (x:List UInt8):qDI (zs++[y]) x=if x=y.p.name then some (qHT y) else qDI zs x:=by
 unfold qDI
 rw [List.find?_append]
 by_cases hx:x=y.p.name
 ·subst hx
  rw [zM1 rfl,List.find?_eq_none.2 (fun z hz=>by
   intro e
   exact h (ze.2 ⟨z,hz,by simpa using e⟩))]
  simp
 ·rw [zL1 hx]
  cases zs.find? fun z=>z.p.name==x with
  | some z=>rfl
  | none =>
   have:(y.p.name==x)=false:=by rw [zG1];exact fun e=>hx e.symm
   simp [this]
theorem qJ1 {zs:List PX} (n bm bx:Nat) (s:List UInt8) (hs:s∈zs.map (·.p.name)) (hp:∀ y∈zs,isName y.p.name=true) (w:World) (hm:qBj w bm n (qDI zs)) (hbx:w.heap[bx]?=some (.cells #[.map (some bm)] 232 (0,0))) :
  Calls Tryz.prog 208 #[.string ⟨s.toArray⟩,.pointer (some ⟨bx,0,none⟩)] w fun e w'=>e=.returned (.bool false)∧w'=w:=by
 have d0:=ce0 hbx
 obtain ⟨y,hy,rfl,hq⟩:=qG9 hs
 have hlk:=hm.get (t:=232) okS Tryz.underlying232 (qKy w) (i:=y.p.name) (by have:=qD3 (hp y hy);unfold maxLen;omega)
 simp only [mkS] at hlk
 rw [hq] at hlk
 simp only [zy,qHT] at hlk
 have hne:(y.p.name==([]:List UInt8))=false:=by
  rw [zG1]
  intro e
  have:=qK9 (hp y hy)
  rw [e] at this
  simp at this
 have hf0:=qLt
 clear hm hbx hq hs
 go_enter Tryz.func208,Tryz.ntmps208
 go_wp2
 go_ret
 exact ⟨rfl,rfl⟩
theorem qGy:∀ args w,(callFunc 208 args).run Tryz.prog w=.ok (.enter 208 args) w:=enters_of Tryz.func208 (by kernel_rfl) rfl
abbrev qMz (zs:List PX):={ s:List UInt8 // s∈zs.map (·.p.name) }
theorem qNs {zs:List PX} (n bm bx:Nat) (hp:∀ y∈zs,isName y.p.name=true) (w:World) (hm:qBj w bm n (qDI zs)) (hbx:w.heap[bx]?=some (.cells #[.map (some bm)] 232 (0,0))) {A:Option Addr} {cap:Nat} {rs:List (List UInt8)} (hr:Strs w (.slice A rs.length cap) rs) (hrl:rs.length≤1000000) (hin:∀ x∈rs,x∈zs.map (·.p.name)) :
  Calls Tryz.prog 207 #[.slice A rs.length cap,.func (.func 208) #[] #[.pointer (some ⟨bx,0,none⟩)]] w fun e w'=>e=.returned (.bool false)∧Below w.heap.size w w':=by
 rcases Nat.eq_zero_or_pos rs.length with h0 | h0
 ·rw [h0]
  refine (AnyE.slices_ContainsFunc_empty Tryz.cfStr A cap _ w).mono ?_
  rintro e w' ⟨rfl,rfl⟩
  exact ⟨rfl,zB _ _⟩
 ·obtain ⟨A',c',e1,h1⟩:=hr
  injection e1 with e1 e2 e3
  subst e1 e3
  obtain ⟨g,off,rfl,hg,hcells⟩:=h1 (by intro e;rw [e] at h0;simp at h0)
  have hne:rs≠[]:=by intro e;rw [e] at h0;simp at h0
  haveI:Inhabited (qMz zs):=⟨⟨rs.head hne,hin _ (List.head_mem hne)⟩⟩
  obtain ⟨L,hL⟩:∃ L:List (qMz zs),L.map (fun s=>s.1)=rs:=⟨rs.attach.map fun s=>⟨s.1,hin s.1 s.2⟩,by rw [zW];exact List.attach_map_subtype_val rs⟩
  subst hL
  rw [zT] at hrl ⊢
  refine (AnyE.slices_ContainsFunc Tryz.cfStr (fun s:qMz zs=>Value.string ⟨s.1.toArray⟩) (fun _=>false) _ _ qGy g off L.length cap L w (fun W x hb=>?_) (zq _) (by omega) (fun j hj=>by
   rw [hcells j L[j].1 (by simp [hj])]
   rw [getElem!_pos L j hj])).mono ?_
  ·refine (qJ1 n bm bx x.1 x.2 hp W (hm.of_block (hb.block _ hm.lt)) ((hb.block _ (qAa hbx)).trans hbx)).mono ?_
   rintro e w' ⟨rfl,rfl⟩
   exact ⟨rfl,0,rfl⟩
  ·rintro e w' ⟨rfl,q,rfl⟩
   refine ⟨?_,Below.drewN (zB _ _) q⟩
   congr 2
   simp
structure BnSt (w wr:World) (bm bc:Nat) (zs:List PX) (j:Nat):Prop where
 below:Below w.heap.size w wr
 cell:wr.heap[bc]?=some (.cells #[.map (some bm)] 232 (0,0))
 map:qBj wr bm j (qDI (zs.take j))
def qRc (w:World) (zs:List PX) (ev:Ending) (w':World):Prop:=∃ bm,ev=.returned (.tuple #[.map (some bm),.bool true])∧qBj w' bm zs.length (qDI zs)∧Below w.heap.size w w'
theorem qH9 {w:World} {A:Option Addr} {zs:List PX} (h:PacksAt w A zs) (hP:qEJ (zs.map (·.p))) (cap:Nat) {An:Option Addr} {cn:Nat} {names:List (List UInt8)} (hn:Strs w (.slice An names.length cn) names) (hnl:names.length≤1000000) (hin:∀ x∈names,x∈zs.map (·.p.name)) :
  Calls Tryz.prog 151 #[.slice A zs.length cap,.slice An names.length cn] w (qRc w zs):=by
 have hmm:=@run_makeMap Tryz.prog
 have HP:=Hh hP
 have H:=Hh h
 have HN:=Hh hn
 have HIN:=Hh hin
 have hmany:zs.length≤40:=by have:=hP.many;simpa using this
 have HW:=Hh (show ∀ y∈zs,isName y.p.name=true from fun y hy=>hP.well y.p (ze.2 ⟨y,hy,rfl⟩))
 have H0:=Hh (show BnSt w ((w.alloc (.map #[] 0)).alloc (.cells #[.map (some w.heap.size)] 232)) w.heap.size (w.heap.size+1) zs 0 from
  ⟨((zB _ w).alloc (zq _) _).alloc (by simp) _,by have:=zK1 (w.alloc (.map #[] 0)) (.cells #[.map (some w.heap.size)] 232);simpa using this,((zzMapAt.made w Tryz.prog 9 qLE).of_block (Below.heap_alloc _ _ _ (by simp))).congr (fun x=>rfl)⟩)
 clear hP h hn hin
 go_enter Tryz.func151,Tryz.ntmps151
 go_upto_region 3 with fail
 generalize (w.alloc (.map #[] 0)).alloc (.cells #[.map (some w.heap.size)] 232)=w4 at *
 go_loopw [12] (fun a wr=>∃ j:Nat,j≤zs.length∧a=.int .i64 j∧Hid (BnSt w wr w.heap.size (w.heap.size+1) zs j)) (fun a _=>zs.length-(intOf a).toNat)
 case atStart=>exact ⟨0,zx _,rfl,H0⟩
 case round =>
  obtain ⟨j,hj0,rfl,HS⟩:=hrel
  by_cases hj:j<zs.length
  ·have k1:(j:Int)<(zs.length:Int):=by omega
   have k0:(0:Int)≤(j:Int):=by omega
   obtain ⟨b,off,hA,hb',s0,s1,s2,s3,s4,s5⟩:=(H.out.later HS.out.below).at hj
   subst hA
   have HTK:=Hh (show zs.take (j+1)=zs.take j++[zs[j]] from zo hj)
   have HNI:=Hh (show zs[j].p.name∉(zs.take j).map (·.p.name) from fun hm=>by
    obtain ⟨y,hy,e⟩:=ze.1 hm
    obtain ⟨i,hi,rfl⟩:=List.getElem_of_mem hy
    simp only [List.length_take] at hi
    have hnd:=HP.out.names
    rw [zW] at hnd
    have:=(List.pairwise_iff_getElem.1 hnd) i j (by simp;omega) (by simpa using hj) (by omega)
    simp at this
    simp only [List.getElem_take] at e
    exact this e)
   have hyl:=zr (qD3 (HW.out _ (zO hj))) (show 12≤1000000 by decide)
   generalize zs[j]=y at *
   have hb5:=(zB wr.heap.size wr).alloc (zq _) (.cells #[.string ⟨y.p.name.toArray⟩,.slice y.a y.p.refs.length y.cap,.string y.t0,.string y.t1,.bool y.t2,.slice y.t3 y.t4 y.t5] 200)
   have HY5:=Hh (zK1 wr (.cells #[.string ⟨y.p.name.toArray⟩,.slice y.a y.p.refs.length y.cap,.string y.t0,.string y.t1,.bool y.t2,.slice y.t3 y.t4 y.t5] 200))
   have HB5:=Hh (HS.out.below.alloc HS.out.below.size (.cells #[.string ⟨y.p.name.toArray⟩,.slice y.a y.p.refs.length y.cap,.string y.t0,.string y.t1,.bool y.t2,.slice y.t3 y.t4 y.t5] 200))
   have HC5:=Hh ((hb5.block _ (qAa HS.out.cell)).trans HS.out.cell)
   have HM5:=Hh (HS.out.map.of_block (hb5.block _ HS.out.map.lt))
   have hlo:w.heap.size+1<wr.heap.size:=qAa HS.out.cell
   clear hb5
   go_upto_region 5 with fail
   clear s0 s1 s2 s3 s4 s5
   generalize wr.alloc (.cells #[.string ⟨y.p.name.toArray⟩,.slice y.a y.p.refs.length y.cap,.string y.t0,.string y.t1,.bool y.t2,.slice y.t3 y.t4 y.t5] 200)=w5 at *
   have r0:=ce0 HY5.out
   have r1:=ce1 HY5.out
   have r2:=ce2 HY5.out
   have r3:=ce3 HY5.out
   have r4:=ce4 HY5.out
   have r5:=ce5 HY5.out
   have cc:=ce0 HC5.out
   go_wp2_with (at_mapUpdate;refine qBf rfl _ _ _ 232 200 rfl okS Tryz.underlying232 rfl HM5.out (by unfold maxLen;omega) y.p.name (by unfold maxLen;omega) rfl (qHT y) rfl ?_;intro W6 hmap6 hturn6)
   refine ⟨⟨j+1,hj,by go_num,Hh ⟨?_,?_,?_⟩⟩,by simp [intOf];omega⟩
   ·exact HB5.out.grown hturn6.grown HB5.out.size (fun k hk=>by injection hk with hk;omega)
   ·exact (hturn6.grown.block _ (qAa HC5.out) (fun h=>by injection h with h;omega)).trans HC5.out
   ·refine hmap6.congr fun z=>?_
    rw [HTK.out,qJ4 HNI.out]
  ·have k1:¬ (j:Int)<(zs.length:Int):=by omega
   obtain rfl:j=zs.length:=by omega
   have hm:=HS.out.map
   rw [zm] at hm
   have HM:=Hh hm
   have HALL:=Hh (qNs zs.length w.heap.size (w.heap.size+1) HW.out wr.drew hm HS.out.cell (HN.out.later HS.out.below.drew) hnl HIN.out)
   have cc:=ce0 HS.out.cell
   clear hm
   go_upto_region 7 with fail
   go_region_held3 (fun w'=>w'.cell? ⟨w.heap.size+1,0,none⟩=some (.map (some w.heap.size)))
    (first
     | exact cc
     | exact cc'
     | go_keep)
    (first
     | (go_at_call 207;refine HALL.out.mono ?_;rintro ev w7 ⟨rfl,hb7⟩;have cc':w7.cell? ⟨w.heap.size+1,0,none⟩=some (.map (some w.heap.size)):=zJ1 w7 _ 0 _ _ _ ((hb7.block _ (qAa HS.out.cell)).trans HS.out.cell))
     | fail)
   have hb8:Below wr.heap.size wr w7:=(zB _ wr).drew.trans (hb7.mono (zq _))
   have HB8:=Hh hb8
   clear cc cc' hb7 hb8
   go_wp2
   go_ret2
   exact ⟨_,rfl,HM.out.of_block (HB8.out.block _ HM.out.lt),HS.out.below.trans (HB8.out.mono HS.out.below.size)⟩
end Go.Proofs.YtceklhjomhjipaaGreatDoor
