/- Texts of this claim, merged: OptFile, Trees, MadePure, SizePure, OptStep, OptAll. -/
import Derived.Test.YtceklhjomhjipaaGreatDoorKm28
set_option maxHeartbeats 16000000
set_option maxRecDepth 1000000
set_option linter.all false
namespace Go.Proofs.YtceklhjomhjipaaGreatDoor
open Go.RowKit Go.Sort Go.Shelf Stl
def qOh (T:Tab) (n:Nat) (w:World) (ev:Ending) (w':World):Prop :=
 ∃ (tt:Int) (is:Bool),ev=.returned (.tuple #[.int .i64 tt,.bool is])∧(∀ m,T.lesser n=some m→tt=(m:Int)∧is=true)∧(T.lesser n=none→is=false)∧Below w.heap.size w w'
section
variable {w:World} {c:Nat→Col} {b:Nat} {d:Stl.Dirs} {p:Nat→Addr}
theorem qMo (h:DirsAt w c b d) (hd:DirsGood d) (hE:Env w c p) {e:Ent} (he:e∈d.l) (hk:e.k≤1000000) {s:List UInt8} {n:Nat} (hf:(s,n)∈e.f) {bm nn:Nat} (hm:qNN w bm nn (qBz d.t d.t.all)) :
  Calls Tryz.prog 172 #[.pointer (some ⟨b,0,none⟩),.map (some bm),.int .i64 e.k,.string ⟨s.toArray⟩] w (qOh d.t n w):=by
 have hent:=qAt hd.ok.keys he
 obtain ⟨hna,⟨ls,hsp⟩,hsl⟩:=qF1 hd.ok he hf
 have hsm:=hd.small hent _ hf
 simp only at hsm
 have HIN:=Hh (qFW h e.k hk s (by omega) hE.errs hE.max hent)
 rw [show qCi d e.k s=.ok n by unfold qCi;rw [hent];simp only [hsp,hna],show qKl p (.ok n)=#[.int .i64 n,.nilIface] from rfl] at HIN
 obtain ⟨bt,bmm,nd,fm,h⟩:=h
 have HD:=Hh hd
 have HE:=Hh hE.errs
 have HTB:=Hh (fun (W:World) (hb:Below w.heap.size w W)=>qB3 (h.below hb))
 have HT:=Hh h.tab
 have HM:=Hh hm
 have hx:∃ x,d.t.at_ n=some x:=by
  have h1:n∈nums d.l:=by
   unfold nums
   exact zb.2 ⟨e,he,ze.2 ⟨_,hf,rfl⟩⟩
  exact zz.1 (hd.ok.there n h1)
 obtain ⟨x,hx⟩:=hx
 have HX:=Hh hx
 clear h hd hE he hf hm hent hna hsp
 go_enter Tryz.func172,Tryz.ntmps172
 go_upto_region 4 with (go_at_call 95;refine HIN.out.mono ?_;rintro ev w1 ⟨rfl,hb1⟩;have HB1:=Hh hb1;clear hb1)
 have HR:=Hh (qBX (HT.out.below HB1.out) HD.out.ok.tab HD.out.disk n hsm (HE.out.later HB1.out))
 cases hrd:d.t.read n with
 | error cd =>
  rw [hrd,show qDw p (.error cd)=#[.string ⟨#[]⟩,qAB p cd] from rfl,qAc p (qC7 hrd)] at HR
  have HL:=Hh (qL7 hrd)
  clear hrd hx
  go_wp2_with (first
   | (go_at_call 52;refine (HTB.out _ HB1.out).mono ?_;rintro ev wz ⟨rfl,rfl⟩)
   | (go_at_call 143;refine HR.out.mono ?_;rintro ev w2 ⟨rfl,hb2⟩;have HB2:=Hh (HB1.out.trans (hb2.mono HB1.out.size));clear hb2))
  go_ret2
  exact ⟨_,_,rfl,fun m hm=>(by rw [HL.out] at hm;cases hm),fun _=>rfl,HB2.out⟩
 | ok dat =>
  rw [hrd,show qDw p (.ok dat)=#[.string ⟨dat.toArray⟩,.nilIface] from rfl] at HR
  have hsl2:dat.length≤maxLen:=by
   have h1:dat.length≤x.bytes:=by
    unfold Tab.read at hrd
    rw [HX.out] at hrd
    simp only at hrd
    split at hrd
    ·cases hrd
     unfold Tab.raw
     exact List.length_take_le _ _
    ·cases hrd
   have h2:=HD.out.ok.tab.bytes n x HX.out
   unfold maxLen
   omega
  have hky:=qKh hrd HX.out
  obtain ⟨m,hfm,hmn⟩:=qLX hky
  have HKY:=Hh hky
  have HFM:=Hh hfm
  clear hrd hx hky
  go_upto_region 5 with (first
   | (go_at_call 52;refine (HTB.out _ HB1.out).mono ?_;rintro ev wz ⟨rfl,rfl⟩)
   | (go_at_call 143;refine HR.out.mono ?_;rintro ev w2 ⟨rfl,hb2⟩;have HB2:=Hh (HB1.out.trans (hb2.mono HB1.out.size));clear hb2))
  have HST:=Hh (qBS (HT.out.below HB2.out) HD.out.ok.tab n hsm HX.out)
  simp only [qFw,qAz] at HST
  go_upto_region 8 with (first
   | (go_at_call 52;refine (HTB.out _ HB2.out).mono ?_;rintro ev wz ⟨rfl,rfl⟩)
   | (go_at_call 54;refine HST.out.mono ?_;rintro ev w4 ⟨A4,cap4,rfl,hr4,hb4⟩;have HB4:=Hh (HB2.out.trans (hb4.mono HB2.out.size));clear hb4 hr4))
  have HB5:=Hh (HB4.out.alloc HB4.out.size (.cells #[.int .i64 x.bytes,.int .i64 x.links,.bool x.exec,.slice A4 x.blocks.length cap4,.int .u32 x.sum.toNat] 71))
  have HX5:=Hh (zK1 w4 (.cells #[.int .i64 x.bytes,.int .i64 x.links,.bool x.exec,.slice A4 x.blocks.length cap4,.int .u32 x.sum.toNat] 71))
  generalize w4.alloc (.cells #[.int .i64 x.bytes,.int .i64 x.links,.bool x.exec,.slice A4 x.blocks.length cap4,.int .u32 x.sum.toNat] 71)=w5 at *
  have x2:=ce2 HX5.out
  have hlk:=(HM.out.of_block (HB5.out.block _ HM.out.lt)).get (t:=265) okK Tryz.underlying265 (qHJ w5) (i:=⟨(dat,x.exec),hsl2⟩) trivial
  have hff:qBz d.t d.t.all ⟨(dat,x.exec),hsl2⟩=some (.int .i64 (m:Int)):=by unfold qBz;simp only [HFM.out];rfl
  rw [hff] at hlk
  simp only [zy,mkT,mkK] at hlk
  clear hff hfm
  by_cases hlt:m<n
  ·have i1:decide ((m:Int)<(n:Int))=true:=by simp;omega
   have i2:(m:Int)<(n:Int):=by omega
   have HL:=Hh ((qHa HKY.out).2 ⟨hlt,HFM.out⟩)
   go_wp2_with fail
   go_ret2
   refine ⟨_,_,rfl,fun m' hm'=>?_,fun h=>(by rw [HL.out] at h;cases h),HB5.out⟩
   rw [HL.out] at hm'
   cases hm'
   exact ⟨rfl,by first | rfl | exact i1⟩
  ·have i1:decide ((m:Int)<(n:Int))=false:=by simp;omega
   have i2:¬ (m:Int)<(n:Int):=by omega
   have HL:=Hh (qKe HKY.out HFM.out hlt)
   go_wp2_with fail
   go_ret2
   refine ⟨_,_,rfl,fun m' hm'=>(by rw [HL.out] at hm';cases hm'),fun h=>?_,HB5.out⟩
   first | rfl | exact i1
end
end Go.Proofs.YtceklhjomhjipaaGreatDoor
namespace Go.Proofs.YtceklhjomhjipaaGreatDoor
open Go.RowKit Go.Maps Go.Sort Go.Shelf Stl
section
variable {w:World} {c:Nat→Col} {b:Nat} {d:Stl.Dirs}
theorem qL5 (h:DirsAt w c b d) (hd:DirsGood d) :
  Calls Tryz.prog 171 #[.pointer (some ⟨b,0,none⟩)] w fun e w'=>∃ A cap,e=.returned (.slice A (d.l.map (·.k)).length cap)∧w'.ownsRow w.heap.size 3 1 (.slice A (d.l.map (·.k)).length cap) (d.l.map (·.k)).length ((d.l.map (·.k)).map qH4)∧Below w.heap.size w w':=by
 obtain ⟨bt,bm,nd,fm,h⟩:=h
 have c2:=ce1 h.own
 obtain ⟨D0,hown,hMI⟩:=h.map
 have hsl:=hown.size_le
 have hbl:=hown.lt
 have hL:=hd.ents
 have hKS:=fun ss hp=>qF0 hown hMI (l:=d.l.map (·.k)) (List.pairwise_map.2 hd.ok.keys) (fun k=>by
  have e:(qA3 d.l nd fm k).isSome=(qAi d.l k).isSome:=by unfold qA3;cases qAi d.l k<;>rfl
  rw [e]
  unfold qAi
  rw [List.find?_isSome]
  simp only [ze,beq_iff_eq]) (ss:=ss) hp
 have HKS:=Hh hKS
 clear h hKS
 refine (zI1 (n:=6)).1 ?_
 have hseq:SeqGives Fence.wide 2 Tryz.prog 276 #[.pointer (some ⟨w.heap.size,0,none⟩)] encZ (fun ss=>ss.Perm (intKeys D0)) (Maps.size D0) (w.alloc (.cells #[.map (some bm)] 87)) :=
  AnyZI.keys_gives (ρ:=Tryz.keysEnt_ren) { Tryz.keysEnt with } Fence.wide _ trivial rfl (by omega) w.heap.size bm d.l.length D0 _ (by simp) (by simp) (by
   obtain ⟨es,clock,hb,Ft,hs,hD⟩:=hown
   exact ⟨es,clock,(Below.heap_alloc _ _ bm hbl).trans hb,Ft,hs,hD⟩)
 have cK:∀ mb W,CallsIn Fence.wide 5 Tryz.prog 222 #[.map mb] W fun e w'=>e=.returned (.func (.func 276) #[] #[.pointer (some ⟨W.heap.size,0,none⟩)])∧w'=W.alloc (.cells #[.map mb] 87):=fun mb W=>AnyZI.keys_in Tryz.keysEnt Fence.wide 5 trivial rfl mb W
 have cS:=AnyZI.sorted_in Tryz.sortedI Fence.wide 5 trivial trivial trivial trivial rfl (by omega) (qPT _) (enters_of Tryz.func159 (by kernel_rfl) rfl) 276 #[.pointer (some ⟨w.heap.size,0,none⟩)] trivial (enters_of Tryz.func276 (by kernel_rfl) rfl) _ _ (by unfold maxLen;omega) (by omega) _ hseq
 change CallsIn _ _ Tryz.prog 101 _ _ _ at cS
 have hfK:Fence.wide.fn 222:=trivial
 have hfS:Fence.wide.fn 101:=trivial
 refine callsIn_of_wp Tryz.func171 rfl trivial ?_ rfl
 simp only [Tryz.ntmps171,List.size_toArray,zQ,List.length_nil,Nat.reduceAdd,Nat.reduceSub,Array.replicate_succ,Array.replicate_zero,List.push_toArray,List.append_toArray,zi,zE]
 gi_wp2_with (first
  | (gi_at_call 222;refine (cK _ _).mono ?_;rintro e w' ⟨rfl,rfl⟩)
  | (gi_at_call 101;refine cS.mono ?_;rintro e w' ⟨v,ss,rfl,hS,hrow,hnil,hb⟩))
 go_ret
 have hks:=HKS.out ss hS
 have hlen:ss.length=(d.l.map (·.k)).length:=by
  have:=congrArg List.length hks
  simpa using this
 have e1:(ss.mergeSort (fun x y=>decide (x≤y))).map encZ=(d.l.map (·.k)).map qH4:=by
  rw [show ss.mergeSort (fun x y=>decide (x≤y))=_ from hks,zW]
  rfl
 rw [e1,hlen] at hrow
 obtain ⟨A,cap,rfl⟩:=Stl.owns_slice _ hrow
 exact ⟨A,cap,rfl,ownsRow_base_a hrow (by simp),((zB _ w).alloc (zq _) _).trans (hb.mono (by simp))⟩
end
end Go.Proofs.YtceklhjomhjipaaGreatDoor
namespace Stl
theorem qFa:∀ (a:List It) (x:It) (t:Tab),makeAll t (a++[x])=match makeAll t a with
  | .error e=>.error e
  | .ok (l,t1)=>match t1.make x.n.data x.n.exec with
   | .error e=>.error e
   | .ok (n,t2)=>.ok (l++[(told x.path,n)],t2)
 | [],x,t=>by
  simp only [zi,makeAll]
  cases t.make x.n.data x.n.exec with
  | error e=>rfl
  | ok p=>rfl
 | y::a,x,t=>by
  rw [zE]
  conv=>lhs;unfold makeAll
  conv=>rhs;unfold makeAll
  cases t.make y.n.data y.n.exec with
  | error e=>rfl
  | ok p =>
   simp only
   rw [qFa a x p.2]
   cases makeAll p.2 a with
   | error e=>rfl
   | ok q =>
    simp only
    cases q.2.make x.n.data x.n.exec with
    | error e=>rfl
    | ok z=>rfl
theorem qGA {t t':Tab} {a b:List It} {f:List (Bytes×Nat)} (h:makeAll t (a++b)=.ok (f,t')):∃ g t1,makeAll t a=.ok (g,t1):=by
 induction a generalizing t f with
 | nil=>exact ⟨[],t,rfl⟩
 | cons x a ih =>
  rw [zE] at h
  unfold makeAll at h ⊢
  cases hm:t.make x.n.data x.n.exec with
  | error e=>rw [hm] at h;cases h
  | ok p =>
   obtain ⟨n,t1⟩:=p
   rw [hm] at h
   simp only at h ⊢
   cases h2:makeAll t1 (a++b) with
   | error e=>rw [h2] at h;cases h
   | ok q =>
    obtain ⟨l,t2⟩:=q
    rw [h2] at h
    cases h
    obtain ⟨g,t3,h3⟩:=ih h2
    rw [h3]
    exact ⟨_,_,rfl⟩
theorem qMq {t t':Tab} {data:Bytes} {exec:Bool} {n:Nat} (h:t.make data exec=.ok (n,t')):t'.disk.length=t.disk.length∧t'.l.length≤t.l.length+1:=by
 unfold Tab.make at h
 split at h
 ·cases h
 ·split at h
  ·cases h
  ·cases h
   refine ⟨qAJ _ _ _,?_⟩
   simp only [putAt]
   split<;>simp
theorem qBv:∀ (a:List It) (t t':Tab) (f:List (Bytes×Nat)),makeAll t a=.ok (f,t')→t'.disk.length=t.disk.length∧t'.l.length≤t.l.length+a.length∧f.map (·.1)=a.map fun x=>told x.path
 | [],t,t',f,h=>by cases h;simp
 | x::a,t,t',f,h=>by
  unfold makeAll at h
  cases hm:t.make x.n.data x.n.exec with
  | error e=>rw [hm] at h;cases h
  | ok p =>
   obtain ⟨n,t1⟩:=p
   rw [hm] at h
   simp only at h
   cases h2:makeAll t1 a with
   | error e=>rw [h2] at h;cases h
   | ok q =>
    obtain ⟨l,t2⟩:=q
    rw [h2] at h
    cases h
    have a1:=qMq hm
    have a2:=qBv a t1 _ _ h2
    refine ⟨by omega,by simp only [zQ];omega,by simp [a2.2.2]⟩
theorem qEj (n:Nd):(qAe n).length≤200:=zr (zS _ _) (qIn n)
theorem qBY (n:Nd):(qAe n).map (fun x=>told x.path)=qAv n:=rfl
theorem qNm {d:Dirs} (hd:qAN d) {n:Nd} (h0:treeErr n=0) (h1:qCu n≤d.t.free.length) {i:Nat} (hi:i<(qAe n).length) {f:List (Bytes×Nat)} {t:Tab} (hm:makeAll d.t ((qAe n).take i)=.ok (f,t)) :
  ∃ m t2,t.make (qAe n)[i].n.data (qAe n)[i].n.exec=.ok (m,t2)∧makeAll d.t ((qAe n).take (i+1))=.ok (f++[(told (qAe n)[i].path,m)],t2):=by
 have hall:∀ x∈qAe n,x.n.data.length≤2000:=by
  intro x hx
  have hx2:=(zZ.1 hx).1
  unfold items at hx2
  rw [zM1 h0] at hx2
  exact own_data ((items_well h0).2 x hx2).1
 obtain ⟨f2,t3,h2,_⟩:=qCI (qAe n) d.t hd.tab hall h1
 have e:qAe n=(qAe n).take (i+1)++(qAe n).drop (i+1):=(List.take_append_drop _ _).symm
 rw [e] at h2
 obtain ⟨g,t4,h3⟩:=qGA h2
 have h4:=h3
 rw [zo hi,qFa,hm] at h3
 simp only at h3
 cases h5:t.make (qAe n)[i].n.data (qAe n)[i].n.exec with
 | error c=>rw [h5] at h3;cases h3
 | ok p =>
  obtain ⟨m,t5⟩:=p
  rw [h5] at h3
  cases h3
  exact ⟨_,_,rfl,h4⟩
theorem qNr {n:Nd} (h0:treeErr n=0) {i:Nat} (hi:i<(qAe n).length):getPath n (told (qAe n)[i].path)=.ok (qAe n)[i].n∧((qAe n)[i].n.data.length≤2000∧(qAe n)[i].path.length≤104):=by
 have hx:=zO hi
 have hx2:=(zZ.1 hx).1
 refine ⟨qKG h0 hx2,?_⟩
 unfold items at hx2
 rw [zM1 h0] at hx2
 have:=(items_well h0).2 _ hx2
 exact ⟨own_data this.1,this.2⟩
theorem qG5:∀ {f:List (Bytes×Nat)} {s:Bytes} {n:Nat},s∉f.map (·.1)→∀ x,qAI (f++[(s,n)]) x=if x=s then some n else qAI f x
 | [],s,n,_,x=>by
  by_cases h:s=x
  ·subst h;simp [qAI]
  ·simp [qAI,h,Ne.symm h]
 | (a,m)::f,s,n,h,x=>by
  have h1:s≠a:=fun e=>h (by simp [e])
  have h2:s∉f.map (·.1):=fun e=>h (by simp at e ⊢;exact .inr e)
  rw [zE,qBp,qBp,qG5 h2]
  by_cases ha:a=x
  ·subst ha
   rw [zM1 rfl,zM1 rfl,zL1 (Ne.symm h1)]
  ·rw [zL1 ha,zL1 ha]
theorem qOQ {n:Nd} {i:Nat} (hi:i<(qAe n).length) {f:List (Bytes×Nat)} {t t':Tab} (hm:makeAll t ((qAe n).take i)=.ok (f,t')):told (qAe n)[i].path∉f.map (·.1):=by
 rw [(qBv _ _ _ _ hm).2.2]
 intro h
 have hn:=qBU n
 rw [← qBY] at hn
 have e:(qAe n).take (i+1)=(qAe n).take i++[(qAe n)[i]]:=zo hi
 have h2:(((qAe n).take (i+1)).map fun x=>told x.path).Nodup:=by
  exact hn.sublist ((List.take_sublist _ _).map _)
 rw [e,zU,List.nodup_append] at h2
 exact h2.2.2 _ h _ (by simp) rfl
structure Sizes (d d':Dirs) (k:Nat):Prop where
 disk:d'.t.disk.length=d.t.disk.length
 inos:d'.t.l.length≤d.t.l.length+200*k
 next:d'.next≤d.next+k
 ents:d'.l.length≤d.l.length+k
theorem Sizes.refl (d:Dirs) (k:Nat):Sizes d d k:=⟨rfl,by omega,by omega,by omega⟩
theorem Sizes.trans {d d1 d2:Dirs} {k:Nat} (h:Sizes d d1 0) (h2:Sizes d1 d2 k):Sizes d d2 k :=
 ⟨h2.disk.trans h.disk,by have:=h.inos;have:=h2.inos;omega,by have:=h.next;have:=h2.next;omega,by have:=h.ents;have:=h2.ents;omega⟩
theorem qOj (t:Tab) (n:Nat):(unl t n).disk=t.disk∧(unl t n).l.length=t.l.length:=by
 cases hx:t.at_ n with
 | none=>rw [qCJ hx];exact ⟨rfl,rfl⟩
 | some x=>rw [qB9 hx];simp
theorem qDN:∀ (a:List (Bytes×Nat)) (t:Tab),(qAg t a).disk=t.disk
 | [],t=>rfl
 | (s,n)::a,t=>by rw [qAu,qDN a,(qOj t n).1]
theorem qJn {d d':Dirs} {k:Nat} (h:d.drop k=.ok d'):Sizes d d' 0:=by
 unfold Dirs.drop at h
 cases he:qAi d.l k with
 | none=>rw [he] at h;cases h
 | some e =>
  rw [he] at h
  cases h
  exact ⟨by rw [qDN],by rw [qDL];omega,by simp,by simp [zS]⟩
theorem qBT:∀ (dead:List Bytes) (d:Dirs) (l:List Pk),Sizes d (qAw d l dead).1 0
 | [],d,l=>Sizes.refl d 0
 | nm::r,d,l=>by
  unfold qAw
  cases hf:l.find? fun p=>p.name==nm with
  | none=>exact qBT r d l
  | some p =>
   simp only
   cases hd:d.drop p.k with
   | error c=>exact qBT r d _
   | ok d1=>exact (qJn hd).trans (qBT r d1 _)
theorem qMY {t t':Tab} {n:Nat} (h:t.link n=.ok t'):t'.disk=t.disk∧t'.l.length=t.l.length:=by
 unfold Tab.link at h
 cases hx:t.at_ n with
 | none=>rw [hx] at h;cases h
 | some x=>rw [hx] at h;cases h;simp
theorem qGp {t t':Tab} {n:Nat} (h:t.unlink n=.ok t'):t'.disk=t.disk∧t'.l.length=t.l.length:=by
 unfold Tab.unlink at h
 cases hx:t.at_ n with
 | none=>rw [hx] at h;cases h
 | some x=>rw [hx] at h;cases h;simp
theorem qId {d d':Dirs} (h:d.step=some d'):Sizes d d' 0:=by
 unfold Dirs.step at h
 cases hs:stepOf d.t d.l with
 | none=>rw [hs] at h;cases h
 | some q =>
  obtain ⟨k,s,was,n⟩:=q
  rw [hs] at h
  simp only at h
  cases h
  cases hl:d.t.link n with
  | error c =>
   cases hu:d.t.unlink was with
   | error c2=>simp only [hu];exact ⟨rfl,by simp,by simp,by simp⟩
   | ok t2 =>
    have:=qGp hu
    simp only [hu]
    exact ⟨by rw [this.1],by rw [this.2];omega,by simp,by simp⟩
  | ok t1 =>
   have h1:=qMY hl
   cases hu:t1.unlink was with
   | error c2=>simp only [hu];exact ⟨by rw [h1.1],by rw [h1.2];omega,by simp,by simp⟩
   | ok t2 =>
    have:=qGp hu
    simp only [hu]
    exact ⟨by rw [this.1,h1.1],by rw [this.2,h1.2];omega,by simp,by simp⟩
theorem qGY:∀ (f:Nat) (d:Dirs),Sizes d (Dirs.merge f d).2 0
 | 0,d=>Sizes.refl d 0
 | f+1,d=>by
  unfold Dirs.merge
  cases hs:d.step with
  | none=>exact Sizes.refl d 0
  | some d1=>exact (qId hs).trans (qGY f d1)
theorem qPD {d d':Dirs} {n:Nd} {k:Nat} (h:d.put n=.ok (k,d')):Sizes d d' 1:=by
 unfold Dirs.put at h
 split at h
 ·cases h
 ·split at h
  ·cases h
  ·cases hm:makeAll d.t (qAe n) with
   | error c=>rw [hm] at h;cases h
   | ok q =>
    obtain ⟨f,t⟩:=q
    rw [hm] at h
    cases h
    have a:=qBv _ _ _ _ hm
    have b:=qEj n
    exact ⟨a.1,by simp only;omega,by simp,by simp⟩
theorem qOx {s s':Sto} {rest:Bytes} (h:s.add rest=.ok s'):Sizes s.d s'.d 1:=by
 unfold Sto.add at h
 split at h
 ·cases h
 ·split at h
  ·cases h
  ·split at h
   ·cases h
   ·split at h
    ·cases h
    ·split at h
     ·cases h
     ·simp only at h
      split at h
      ·cases h
      ·split at h
       ·cases h
       ·rename_i k d hp
        cases h
        exact qPD hp
theorem qMI {t t':Tab} {n:Nat} {data:Bytes} (h:t.mend n data=.ok t'):t'.disk.length=t.disk.length∧t'.l=t.l:=by
 unfold Tab.mend at h
 cases hx:t.at_ n with
 | none=>rw [hx] at h;cases h
 | some x =>
  rw [hx] at h
  simp only at h
  split at h
  ·cases h
  ·cases hr:t.read n with
   | ok b=>rw [hr] at h;cases h
   | error c=>rw [hr] at h;cases h;exact ⟨qAJ _ _ _,rfl⟩
theorem qJ7 {s s':Sto} {line a:Bytes} (h:s.change line=some (.ok (a,s'))):Sizes s.d s'.d 1:=by
 have up:∀ {d d':Dirs},Sizes d d' 0→Sizes d d' 1:=fun h=>⟨h.disk,by have:=h.inos;omega,by have:=h.next;omega,by have:=h.ents;omega⟩
 unfold Sto.change at h
 split at h
 ·cases h;exact up (qBT _ _ _)
 ·split at h
  ·cases h;exact up (qGY _ _)
  ·cases hcut:cutAt 32 line with
   | none=>rw [hcut] at h;cases h
   | some q =>
    obtain ⟨word,rest⟩:=q
    rw [hcut] at h
    simp only at h
    split at h
    ·cases ha:s.add rest with
     | error e=>rw [ha] at h;cases h
     | ok x=>rw [ha] at h;cases h;exact qOx ha
    ·split at h
     ·injection h with h
      split at h
      ·cases h
      ·split at h
       ·cases h
       ·cases h;exact Sizes.refl _ _
     ·split at h
      ·injection h with h
       split at h
       ·cases h;exact Sizes.refl _ _
       ·cases h
      ·split at h
       ·injection h with h
        split at h
        ·cases h
        ·split at h
         ·rename_i k bit _ _
          cases hr:s.d.t.rot k bit with
          | error e=>rw [hr] at h;cases h
          | ok t =>
           rw [hr] at h
           cases h
           unfold Tab.rot at hr
           split at hr
           ·cases hr
           ·cases hr
            exact ⟨by simp,by simp,by simp,by simp⟩
         ·cases h
       ·split at h
        ·injection h with h
         split at h
         ·cases h
         ·split at h
          ·rename_i n _
           cases hm:s.d.t.mend n _ with
           | error e=>rw [hm] at h;cases h
           | ok t =>
            rw [hm] at h
            cases h
            have:=qMI hm
            exact ⟨this.1,by simp only;rw [this.2];omega,by simp,by simp⟩
          ·cases h
        ·cases h
end Stl
namespace Go.Proofs.YtceklhjomhjipaaGreatDoor
open Go.RowKit Go.Sort Go.Shelf Stl
theorem qDP {t:Tab}:∀ (l:List Ent) (i:Nat),(∀ e∈l.take i,∀ q∈e.f,t.lesser q.2=none)→stepOf t l=stepOf t (l.drop i)
 | [],i,_=>by simp
 | e::r,0,_=>rfl
 | e::r,i+1,h=>by
  have h1:e.f.findSome? (fun p=>(t.lesser p.2).map fun m=>(e.k,p.1,p.2,m))=none:=by
   rw [List.findSome?_eq_none_iff]
   intro q hq
   rw [h e (by simp) q hq]
   rfl
  rw [List.drop_succ_cons,← qDP r i (fun x hx=>h x (by simp [hx]))]
  conv=>lhs;unfold stepOf
  rw [h1]
theorem qJ0 {t:Tab} {l:List Ent} (h:∀ e∈l,∀ q∈e.f,t.lesser q.2=none):stepOf t l=none:=by
 rw [qDP l l.length (by rw [zm];exact h),List.drop_length]
 rfl
theorem qGj {α β:Type} {g:α→Option β}:∀ {f:List α} {j:Nat} (hj:j<f.length),(∀ q∈f.take j,g q=none)→∀ {x},g f[j]=some x→f.findSome? g=some x
 | [],_,hj,_,_,_=>by simp at hj
 | a::r,0,_,_,x,h=>by simpa [List.findSome?_cons] using by rw [show g a=some x from h]
 | a::r,j+1,hj,h0,x,h=>by
  rw [List.findSome?_cons,h0 a (by simp)]
  exact qGj (by simpa using hj) (fun q hq=>h0 q (by simp [hq])) (by simpa using h)
theorem qN4 {t:Tab} {l:List Ent} {i:Nat} (hi:i<l.length) (h:∀ e∈l.take i,∀ q∈e.f,t.lesser q.2=none) {j:Nat} (hj:j<l[i].f.length) (h2:∀ q∈l[i].f.take j,t.lesser q.2=none) {m:Nat} (hm:t.lesser l[i].f[j].2=some m) :
  stepOf t l=some (l[i].k,l[i].f[j].1,l[i].f[j].2,m):=by
 rw [qDP l i h,zF hi]
 unfold stepOf
 rw [qGj (g:=fun p=>(t.lesser p.2).map fun m=>(l[i].k,p.1,p.2,m)) hj (fun q hq=>by rw [h2 q hq];rfl) (x:=(l[i].k,l[i].f[j].1,l[i].f[j].2,m)) (by rw [hm];rfl)]
theorem qQy {d:Stl.Dirs} (hd:qAN d) {i:Nat} (hi:i<d.l.length) (h:∀ e∈d.l.take i,∀ q∈e.f,d.t.lesser q.2=none) {j:Nat} (hj:j<d.l[i].f.length) (h2:∀ q∈d.l[i].f.take j,d.t.lesser q.2=none) {m:Nat} (hm:d.t.lesser d.l[i].f[j].2=some m) :
  ∃ t1 t2,d.t.link m=.ok t1∧t1.unlink d.l[i].f[j].2=.ok t2∧d.step=some { d with t:=t2,l:=qAM d.l d.l[i].k d.l[i].f[j].1 m }:=by
 have hs:=qN4 hi h hj h2 hm
 have hne:d.step≠none:=by
  unfold Dirs.step
  rw [hs]
  simp
 obtain ⟨d',hd'⟩:=Option.ne_none_iff_exists'.1 hne
 obtain ⟨e,he,s,was,n,t1,t2,g1,g2,g3,g4,g5,g6⟩:=qG7 hd hd'
 rw [hs] at g1
 injection g1 with g1
 injection g1 with a1 g1
 injection g1 with a2 g1
 injection g1 with a3 a4
 subst a2 a3 a4
 exact ⟨t1,t2,g4,g5,by rw [hd',g6,a1]⟩
theorem qMN {d:Stl.Dirs} (h:∀ e∈d.l,∀ q∈e.f,d.t.lesser q.2=none):d.step=none:=by
 unfold Dirs.step
 rw [qJ0 h]
def qEp (w:World) (c:Nat→Col) (b:Nat) (d:Stl.Dirs) (ev:Ending) (w':World):Prop :=
 match d.step with
 | none=>ev=.returned (.tuple #[.bool false,.nilIface])∧Below w.heap.size w w'
 | some d'=>ev=.returned (.tuple #[.bool true,.nilIface])∧∃ c2,Ext w w' c c2 qFt∧DirsAt w' c2 b d'
section
variable {w:World} {c:Nat→Col} {b:Nat} {d:Stl.Dirs} {p:Nat→Addr}
theorem qNQ {d:Stl.Dirs} (hd:DirsGood d) {e:Ent} (he:e∈d.l):e.k≤1000000:=by
 have:=hd.ok.next e he
 have:=hd.next
 omega
theorem qPB (h:DirsAt w c b d) (hd:DirsGood d) (hE:Env w c p) :
  Calls Tryz.prog 121 #[.pointer (some ⟨b,0,none⟩)] w (qEp w c b d):=by
 have HA:=Hh h
 have HD:=Hh hd
 have HE:=Hh hE
 obtain ⟨bt,bmm,nd,fm,h⟩:=h
 have HTB:=Hh (fun (W:World) (hb:Below w.heap.size w W)=>qB3 (h.below hb))
 have HFS:=Hh (qLk h.tab hd.ok.tab hd.disk hd.inos hE.errs)
 clear h hd hE
 go_enter Tryz.func121,Tryz.ntmps121
 go_upto_region 4 with (first
  | (go_at_call 52;refine (HTB.out _ (zB _ _)).mono ?_;rintro ev wz ⟨rfl,rfl⟩)
  | (go_at_call 170;refine HFS.out.mono ?_;rintro ev w2 ⟨bm,nn,rfl,hm2,hb2⟩;have HM2:=Hh hm2;have HB2:=Hh hb2;clear hm2 hb2))
 have HTR:=Hh (qL5 (HA.out.below HB2.out) HD.out)
 rw [zT] at HTR
 go_upto_region 5 with (go_at_call 171;refine HTR.out.mono ?_;rintro ev w4 ⟨A4,cap4,rfl,hr4,hb4⟩;have HR4:=Hh hr4;have HB24:=Hh hb4;have HB4:=Hh (HB2.out.trans (hb4.mono HB2.out.size));clear hr4 hb4)
 have HM4:=Hh (HM2.out.of_block (HB24.out.block _ HM2.out.lt))
 have hll:=HD.out.ents
 go_loopw [20] (fun a wr=>∃ i:Nat,a=.int .i64 i∧i≤d.l.length∧Hid (Below w4.heap.size w4 wr)∧Hid (∀ e∈d.l.take i,∀ q∈e.f,d.t.lesser q.2=none)) (fun a _=>d.l.length-(intOf a).toNat)
 case atStart=>exact ⟨0,rfl,zx _,Hh (zB _ _),Hh (by simp)⟩
 case round =>
  obtain ⟨i,rfl,hi,HB,HN⟩:=hrel
  by_cases hil:i<d.l.length
  ·have i1:(i:Int)<(d.l.length:Int):=by omega
   have i2:(0:Int)≤(i:Int):=by omega
   have hap:∃ g,A4=some ⟨g,0,none⟩∧g<w4.heap.size:=by
    rcases HR4.out.2 with ⟨_,h0⟩ | ⟨g,cp,cur,e,_,h6,_⟩
    ·omega
    ·simp only [zC1] at e
     exact ⟨g,e.1,qAa h6⟩
   obtain ⟨g,rfl,hgl⟩:=hap
   have q0:wr.cell? ⟨g,i,none⟩=some (.int .i64 (d.l[i].k:Nat)):=by
    rw [HB.out.cell (p:=⟨g,i,none⟩) hgl,HR4.out.cellAt i (by omega),zN,zN,zL hil]
    rfl
   have hmem:=zO hil
   have hk:=qNQ HD.out hmem
   have hent:=qAt HD.out.ok.keys hmem
   have HBW:=Hh (HB4.out.trans (HB.out.mono HB4.out.size))
   have HFL:=Hh (qII (HA.out.below HBW.out) d.l[i].k hk (HE.out.errs.later HBW.out) hent)
   have hff:=HD.out.ok.files _ hmem
   have hfew:=qCp HD.out.ok hmem
   have HFF:=Hh hff
   have HSA:=Hh (fun j hj=>qQy HD.out.ok hil HN.out (j:=j) hj)
   have HTK:=Hh (show d.l.take (i+1)=d.l.take i++[d.l[i]] from zo hil)
   have HMEM:=Hh hmem
   have HFLN:=Hh (show (qAv d.l[i].n).length=d.l[i].f.length by rw [← hff,zT])
   have hfl3:(qAv d.l[i].n).length≤200:=by rw [HFLN.out];exact hfew
   clear hent hff hmem
   generalize d.l[i]=e at *
   generalize qAv e.n=fs at *
   go_upto_region 8 with (go_at_call 94;refine HFL.out.mono ?_;rintro ev w6 ⟨A6,cap6,rfl,hr6,hb6⟩;have HR6:=Hh hr6;have HBR6:=Hh hb6;clear hr6 hb6)
   clear q0
   have HS6:=Hh (qAQ HR6.out)
   have HB46:=Hh (HB.out.trans (HBR6.out.mono HB.out.size))
   go_loopw [28] (fun a wq=>∃ j:Nat,a=.int .i64 j∧j≤fs.length∧Hid (Below w6.heap.size w6 wq)∧Hid (∀ q∈e.f.take j,d.t.lesser q.2=none)) (fun a _=>fs.length-(intOf a).toNat)
   case atStart=>exact ⟨0,rfl,zx _,Hh (zB _ _),Hh (by simp)⟩
   case round =>
    obtain ⟨j,rfl,hj,HBq,HNq⟩:=hrel
    have HB4q:=Hh (HB46.out.trans (HBq.out.mono HB46.out.size))
    have HBWq:=Hh (HB4.out.trans (HB4q.out.mono HB4.out.size))
    by_cases hjl:j<fs.length
    ·have j1:(j:Int)<(fs.length:Int):=by omega
     have j2:(0:Int)≤(j:Int):=by omega
     obtain ⟨g6,off6,rfl,hg6,q6⟩:=(HS6.out.later HBq.out).cellAt hjl
     have hjf:j<e.f.length:=by rw [← HFLN.out];exact hjl
     have hfs:fs[j]=e.f[j].1:=by
      have:=HFF.out
      subst this
      simp
     have HFI:=Hh (qMo (HA.out.below HBWq.out) HD.out (HE.out.below HBWq.out) HMEM.out hk (s:=e.f[j].1) (n:=e.f[j].2) (zO hjf) (HM4.out.of_block (HB4q.out.block _ HM4.out.lt)))
     have HSJ:=Hh (fun m hm=>HSA.out j hjf HNq.out (m:=m) hm)
     have HTKq:=Hh (show e.f.take (j+1)=e.f.take j++[e.f[j]] from zo hjf)
     have HFM:=Hh (show (e.f[j].1,e.f[j].2)∈e.f from zO hjf)
     rw [hfs] at q6
     clear hfs
     generalize e.f[j]=q at *
     obtain ⟨s,n⟩:=q
     simp only at HFI HSJ q6 HFM
     cases hls:d.t.lesser n with
     | none =>
      go_upto_region 11 with (go_at_call 172;refine HFI.out.mono ?_;rintro ev w8 ⟨tt,is,rfl,_,hno,hb8⟩;obtain rfl:=hno hls;have HB8:=Hh (HBq.out.trans (hb8.mono HBq.out.size));clear hb8)
      have HLS:=Hh hls
      clear hls q6
      go_wp2
      go_roundw
      case rel =>
       refine ⟨j+1,by go_num,hjl,HB8,Hh fun q hq=>?_⟩
       rw [HTKq.out] at hq
       rcases zX.1 hq with hq | hq
       ·exact HNq.out q hq
       ·rw [zh.1 hq];exact HLS.out
      case measure=>simp [intOf];omega
     | some m =>
      obtain ⟨t1,t2,g1,g2,g3⟩:=HSJ.out m hls
      go_upto_region 11 with (go_at_call 172;refine HFI.out.mono ?_;rintro ev w8 ⟨tt,is,rfl,hyes,_,hb8⟩;obtain ⟨rfl,rfl⟩:=hyes m hls;have HB8:=Hh (HBWq.out.trans (hb8.mono HBWq.out.size));clear hb8)
      have HSH:=Hh (qOl (HA.out.below HB8.out) HD.out (HE.out.below HB8.out) HMEM.out hk HFM.out hls g1 g2)
      have HG3:=Hh g3
      clear hls q6 g1 g2 g3
      go_wp2_with (go_at_call 173;refine HSH.out.mono ?_;rintro ev w9 ⟨rfl,c9,he9,hd9⟩)
      go_ret2
      unfold qEp
      rw [HG3.out]
      exact ⟨rfl,c9,(Ext.of_below HB8.out c qFt).trans he9,hd9⟩
    ·have j1:¬ (j:Int)<(fs.length:Int):=by omega
     obtain rfl:j=fs.length:=by omega
     have HAL:=Hh (show ∀ q∈e.f,d.t.lesser q.2=none from by have:=HNq.out;rwa [HFLN.out,zm] at this)
     go_wp2
     go_roundw
     case rel =>
      refine ⟨i+1,by go_num,hil,HB4q,Hh fun x hx=>?_⟩
      rw [HTK.out] at hx
      rcases zX.1 hx with hx | hx
      ·exact HN.out x hx
      ·rw [zh.1 hx];exact HAL.out
     case measure=>simp [intOf];omega
  ·have i1:¬ (i:Int)<(d.l.length:Int):=by omega
   obtain rfl:i=d.l.length:=by omega
   have HST:=Hh (qMN (d:=d) (by have:=HN.out;rwa [zm] at this))
   go_wp2
   go_ret2
   unfold qEp
   rw [HST.out]
   exact ⟨rfl,HB4.out.trans (HB.out.mono HB4.out.size)⟩
end
theorem qG1:∀ (f g:Nat) (d:Stl.Dirs),qAN d→d.weight≤f→d.weight≤g→Dirs.merge f d=Dirs.merge g d
 | 0,0,_,_,_,_=>rfl
 | 0,g+1,d,hd,h1,_=>by
  have:d.step=none:=by
   cases hs:d.step with
   | none=>rfl
   | some d1=>have:=(step_ok hd hs).2.2.2.2;omega
  simp [Dirs.merge,this]
 | f+1,0,d,hd,_,h2=>by
  have:d.step=none:=by
   cases hs:d.step with
   | none=>rfl
   | some d1=>have:=(step_ok hd hs).2.2.2.2;omega
  simp [Dirs.merge,this]
 | f+1,g+1,d,hd,h1,h2=>by
  unfold Dirs.merge
  cases hs:d.step with
  | none=>rfl
  | some d1 =>
   obtain ⟨k1,_,_,_,k2⟩:=step_ok hd hs
   simp only
   rw [qG1 f g d1 k1 (by omega) (by omega)]
theorem qH6 {d:Stl.Dirs} (hs:d.step=none):d.mergeAll=(0,d):=by
 unfold Dirs.mergeAll
 cases d.weight with
 | zero=>rfl
 | succ f=>unfold Dirs.merge;rw [hs]
theorem qHs {d d1:Stl.Dirs} (hd:qAN d) (hs:d.step=some d1):d.mergeAll=(d1.mergeAll.1+1,d1.mergeAll.2):=by
 obtain ⟨k1,_,_,_,k2⟩:=step_ok hd hs
 unfold Dirs.mergeAll
 cases hw:d.weight with
 | zero=>omega
 | succ f =>
  conv=>lhs;unfold Dirs.merge
  rw [hs]
  simp only
  rw [qG1 f d1.weight d1 k1 (by omega) (zq _)]
theorem qPJ {l:List Nat} {m:Nat} (h:∀ x∈l,x≤m):l.sum≤l.length*m:=by
 induction l with
 | nil=>simp
 | cons a r ih =>
  have h1:=h a (by simp)
  have h2:=ih (fun x hx=>h x (by simp [hx]))
  simp only [List.sum_cons,zQ,Nat.add_mul,Nat.one_mul]
  omega
theorem qI0 {d:Stl.Dirs} (hd:DirsGood d):d.weight≤1000000*200000000:=by
 unfold Dirs.weight
 refine zr (qPJ (m:=200000000) ?_) ?_
 ·intro x hx
  obtain ⟨e,he,rfl⟩:=ze.1 hx
  refine zr (qPJ (m:=1000000) ?_) ?_
  ·intro n hn
   obtain ⟨q,hq,rfl⟩:=ze.1 hn
   exact hd.small (qAt hd.ok.keys he) q hq
  ·rw [zT]
   have:=qCp hd.ok he
   omega
 ·rw [zT]
  have:=hd.ents
  omega
theorem qMh {d d1:Stl.Dirs} (hd:DirsGood d) (hs:d.step=some d1):DirsGood d1:=by
 have h1:=qId hs
 have h2:=step_ok hd.ok hs
 have:=hd.inos
 have:=hd.next
 have:=hd.ents
 exact ⟨h2.1,by rw [h1.disk];exact hd.disk,by have:=h1.inos;omega,by have:=h1.next;omega,by have:=h1.ents;omega⟩
def qO9 (w:World) (c:Nat→Col) (b:Nat) (r:Nat×Stl.Dirs) (ev:Ending) (w':World):Prop:=ev=.returned (.tuple #[.int .i64 r.1,.nilIface])∧∃ c2,Ext w w' c c2 qFt∧DirsAt w' c2 b r.2
structure OaSt (w wr:World) (c:Nat→Col) (b:Nat) (d:Stl.Dirs) (p:Nat→Addr) (n:Nat) (cr:Nat→Col) (dr:Stl.Dirs):Prop where
 ext:Ext w wr c cr qFt
 at_:DirsAt wr cr b dr
 good:DirsGood dr
 env:Env wr cr p
 weight:n+dr.weight≤d.weight
 eq:d.mergeAll=(n+dr.mergeAll.1,dr.mergeAll.2)
section
variable {w:World} {c:Nat→Col} {b:Nat} {d:Stl.Dirs} {p:Nat→Addr}
theorem qOo (h:DirsAt w c b d) (hd:DirsGood d) (hE:Env w c p) :
  Calls Tryz.prog 72 #[.pointer (some ⟨b,0,none⟩)] w (qO9 w c b d.mergeAll):=by
 have H0:=Hh (show OaSt w w c b d p 0 c d from ⟨Ext.refl _ _ _,h,hd,hE,by omega,by simp⟩)
 have hwl:=qI0 hd
 obtain ⟨res,hres⟩:∃ res,res=d.mergeAll:=⟨_,rfl⟩
 rw [← hres]
 have HRE:=Hh hres
 clear h hd hE hres
 go_enter Tryz.func72,Tryz.ntmps72
 go_wp2_with fail
 go_loopw [4] (fun a wr=>∃ (n:Nat) (cr:Nat→Col) (dr:Stl.Dirs),a=.int .i64 n∧Hid (OaSt w wr c b d p n cr dr)) (fun a _=>d.weight+1-(intOf a).toNat)
 case atStart=>exact ⟨0,c,d,rfl,H0⟩
 case round =>
  obtain ⟨n,cr,dr,rfl,HS⟩:=hrel
  have HST:=Hh (qPB HS.out.at_ HS.out.good HS.out.env)
  have hwt:=HS.out.weight
  cases hs:dr.step with
  | none =>
   have HR:=Hh (show res=(n,dr) by rw [HRE.out,HS.out.eq,qH6 hs];rfl)
   unfold qEp at HST
   rw [hs] at HST
   simp only at HST
   clear hs
   go_wp2_with (go_at_call 121;refine HST.out.mono ?_;rintro ev w2 ⟨rfl,hb2⟩;have HB2:=Hh hb2;clear hb2)
   go_ret2
   rw [HR.out]
   exact ⟨rfl,cr,HS.out.ext.then (Ext.of_below HB2.out cr qFt) (fun _ h=>h),HS.out.at_.below HB2.out⟩
  | some d1 =>
   have hok:=step_ok HS.out.good.ok hs
   have hw2:=hok.2.2.2.2
   have HG1:=Hh (qMh HS.out.good hs)
   have HEQ:=Hh (show d.mergeAll=(n+1+d1.mergeAll.1,d1.mergeAll.2) by
    rw [HS.out.eq,qHs HS.out.good.ok hs]
    simp only
    congr 1
    omega)
   unfold qEp at HST
   rw [hs] at HST
   simp only at HST
   clear hs hok
   go_wp2_with (go_at_call 121;refine HST.out.mono ?_;rintro ev w2 ⟨rfl,c2,he2,hd2⟩;have HE2:=Hh he2;have HD2:=Hh hd2;clear he2 hd2)
   go_roundw
   case rel=>exact ⟨n+1,c2,d1,by go_num,Hh ⟨HS.out.ext.trans HE2.out,HD2.out,HG1.out,HS.out.env.ext HE2.out rfl,by omega,HEQ.out⟩⟩
   case measure=>simp [intOf];omega
def qBH (t:Tab) (n:Nat):Nat:=match t.at_ n with | some x=>(x.links-1)*x.blocks.length | none=>0
def qBx (t:Tab) (l:List Nat):Nat:=(l.map (qBH t)).sum
theorem qFd (t:Tab) (l:List Nat) (n:Nat):qBx t (l++[n])=qBx t l+qBH t n:=by simp [qBx]
theorem qKP (t:Tab):t.saved=qBx t t.all:=by
 have key:∀ k,k≤t.l.length→((t.l.take k).map fun | some x=>(x.links-1)*x.blocks.length | none=>0).sum=qBx t ((List.range k).filter fun n=>(t.at_ n).isSome):=by
  intro k
  induction k with
  | zero=>intro _;rfl
  | succ k ih =>
   intro hk
   have hk':k<t.l.length:=by omega
   rw [zo hk',zU,List.sum_append,ih (by omega),List.range_succ,List.filter_append]
   have hat:t.at_ k=t.l[k]:=by unfold Tab.at_;rw [zL hk'];rfl
   cases ho:t.l[k] with
   | none =>
    rw [zJ (by rw [hat,ho];decide)]
    simp
   | some x =>
    rw [zK (by rw [hat,ho];rfl),List.filter_nil,qFd]
    unfold qBH
    rw [hat,ho]
    simp
 have:=key t.l.length (zq _)
 rw [zm] at this
 exact this
end
end Go.Proofs.YtceklhjomhjipaaGreatDoor
