/- Lemmas. -/
import Derived.Laws.IdiomStrings
import Derived.Test.YtbmkaekimccdgaaGreatDoorBm27
set_option maxHeartbeats 16000000
set_option maxRecDepth 1000000
set_option linter.all false
namespace Go.Proofs.YtbmkaekimccdgaaGreatDoor
open Go.RowKit Go.Sort Go.Shelf Stl
theorem qA1 {t:Tab}:∀ (l:List Ent) (i:Nat),(∀ e∈l.take i,∀ q∈e.f,t.lesser q.2=none)→stepOf t l=stepOf t (l.drop i)
 | [],i,_=>by simp
 | e::r,0,_=>rfl
 | e::r,i+1,h=>by
  have h1:e.f.findSome? (fun p=>(t.lesser p.2).map fun m=>(e.k,p.1,p.2,m))=none:=by
   rw[List.findSome?_eq_none_iff];intro q hq;rw[h e (by simp) q hq];rfl
  rw[List.drop_succ_cons,← qA1 r i (fun x hx=>h x (by simp[hx]))]
  conv=>lhs;unfold stepOf
  rw[h1]
theorem qGk {t:Tab}{l:List Ent}(h:∀ e∈l,∀ q∈e.f,t.lesser q.2=none):stepOf t l=none:=by
 rw[qA1 l l.length (by rw[zk];exact h),List.drop_length];rfl
theorem qCI {α β:Type}{g:α→Option β}:∀ {f:List α} {j:Nat} (hj:j<f.length),(∀ q∈f.take j,g q=none)→∀ {x},g f[j]=some x→f.findSome? g=some x
 | [],_,hj,_,_,_=>by simp at hj
 | a::r,0,_,_,x,h=>by simpa[List.findSome?_cons] using by rw[show g a=some x from h]
 | a::r,j+1,hj,h0,x,h=>by
  rw[List.findSome?_cons,h0 a (by simp)];exact qCI (by simpa using hj) (fun q hq=>h0 q (by simp[hq])) (by simpa using h)
theorem qI7 {t:Tab}{l:List Ent}{i:Nat}(hi:i<l.length)(h:∀ e∈l.take i,∀ q∈e.f,t.lesser q.2=none){j:Nat}(hj:j<l[i].f.length)(h2:∀ q∈l[i].f.take j,t.lesser q.2=none){m:Nat}(hm:t.lesser l[i].f[j].2=some m) :
  stepOf t l=some (l[i].k,l[i].f[j].1,l[i].f[j].2,m):=by
 rw[qA1 l i h,zF hi];unfold stepOf;rw[qCI (g:=fun p=>(t.lesser p.2).map fun m=>(l[i].k,p.1,p.2,m)) hj (fun q hq=>by rw[h2 q hq];rfl) (x:=(l[i].k,l[i].f[j].1,l[i].f[j].2,m)) (by rw[hm];rfl)]
theorem qND {d:Stl.Dirs}(hd:vC d){i:Nat}(hi:i<d.l.length)(h:∀ e∈d.l.take i,∀ q∈e.f,d.t.lesser q.2=none){j:Nat}(hj:j<d.l[i].f.length)(h2:∀ q∈d.l[i].f.take j,d.t.lesser q.2=none){m:Nat}(hm:d.t.lesser d.l[i].f[j].2=some m) :
  ∃ t1 t2,d.t.link m=.ok t1∧t1.unlink d.l[i].f[j].2=.ok t2∧d.step=some { d with t:=t2,l:=jZ d.l d.l[i].k d.l[i].f[j].1 m }:=by
 have hs:=qI7 hi h hj h2 hm;have hne:d.step≠none:=by
  unfold Dirs.step;rw[hs];simp
 obtain⟨d',hd'⟩:=Option.ne_none_iff_exists'.1 hne;obtain⟨e,he,s,was,n,t1,t2,g1,g2,g3,g4,g5,g6⟩:=qDQ hd hd';rw[hs] at g1;injection g1 with g1
 injection g1 with a1 g1
 injection g1 with a2 g1
 injection g1 with a3 a4
 subst a2 a3 a4;exact⟨t1,t2,g4,g5,by rw[hd',g6,a1]⟩
theorem qKC {d:Stl.Dirs}(h:∀ e∈d.l,∀ q∈e.f,d.t.lesser q.2=none):d.step=none:=by
 unfold Dirs.step;rw[qGk h]
def nX (w:World)(c:Nat→Col)(b:Nat)(d:Stl.Dirs)(ev:Ending)(w':World):Prop :=
 match d.step with
 | none=>ev=.returned (.tuple #[.bool false,.nilIface])∧Below w.heap.size w w'
 | some d'=>ev=.returned (.tuple #[.bool true,.nilIface])∧∃ c2,Ext w w' c c2 pW∧DirsAt w' c2 b d'
section
variable {w:World}{c:Nat→Col}{b:Nat}{d:Stl.Dirs}{p:Nat→Addr}
theorem qJU {d:Stl.Dirs}(hd:DirsGood d){e:Ent}(he:e∈d.l):e.k≤1000000:=by
 have:=hd.ok.next e he;have:=hd.next;omega
theorem qLi (h:DirsAt w c b d)(hd:DirsGood d)(hE:Env w c p) :
  Calls Tryz.prog 169 #[.pointer (some ⟨b,0,none⟩)] w (nX w c b d):=by
 have HA:=Hh h;have HD:=Hh hd;have HE:=Hh hE;obtain⟨bt,bmm,nd,fm,h⟩:=h;have HTB:=Hh (fun (W:World) (hb:Below w.heap.size w W)=>wS (h.below hb));have HFS:=Hh (qIb h.tab hd.ok.tab hd.disk hd.inos hE.errs);clear h hd hE;go_enter Tryz.func169,Tryz.ntmps169;go_upto_region 4 with (first
  | (go_at_call 126;refine(HTB.o _ (zB _ _)).mono ?_;rintro ev wz ⟨rfl,rfl⟩)
  | (go_at_call 227;refine HFS.o.mono ?_;rintro ev w2 ⟨bm,nn,rfl,hm2,hb2⟩;have HM2:=Hh hm2;have HB2:=Hh hb2;clear hm2 hb2))
 have HTR:=Hh (qH6 (HA.o.below HB2.o) HD.o);rw[zT] at HTR;go_upto_region 5 with (go_at_call 228;refine HTR.o.mono ?_;rintro ev w4 ⟨A4,cap4,rfl,hr4,hb4⟩;have HR4:=Hh hr4;have HB24:=Hh hb4;have HB4:=Hh (HB2.o.trans (hb4.mono HB2.o.size));clear hr4 hb4);have HM4:=Hh (HM2.o.of_block (HB24.o.block _ HM2.o.lt));have hll:=HD.o.ents
 go_loopw [20] (fun a wr=>∃ i:Nat,a=.int .i64 i∧i≤d.l.length∧Hg (Below w4.heap.size w4 wr)∧Hg (∀ e∈d.l.take i,∀ q∈e.f,d.t.lesser q.2=none)) (fun a _=>d.l.length-(intOf a).toNat)
 case atStart=>exact⟨0,rfl,zw _,Hh (zB _ _),Hh (by simp)⟩
 case round =>
  obtain⟨i,rfl,hi,HB,HN⟩:=hrel;by_cases hil:i<d.l.length
  ·have i1:(i:Int)<(d.l.length:Int):=by omega
   have i2:(0:Int)≤(i:Int):=by omega
   have hap:∃ g,A4=some ⟨g,0,none⟩∧g<w4.heap.size:=by
    rcases HR4.o.2 with ⟨_,h0⟩ | ⟨g,cp,cur,e,_,h6,_⟩
    ·omega
    ·simp only[zC1] at e;exact⟨g,e.1,qA h6⟩
   obtain⟨g,rfl,hgl⟩:=hap;have q0:wr.cell? ⟨g,i,none⟩=some (.int .i64 (d.l[i].k:Nat)):=by
    rw[HB.o.cell (p:=⟨g,i,none⟩) hgl,HR4.o.cellAt i (by omega),zN,zN,zL hil];rfl
   have hmem:=zO hil;have hk:=qJU HD.o hmem;have hent:=jI HD.o.ok.keys hmem;have HBW:=Hh (HB4.o.trans (HB.o.mono HB4.o.size));have HFL:=Hh (qFh (HA.o.below HBW.o) d.l[i].k hk (HE.o.errs.later HBW.o) hent);have hff:=HD.o.ok.files _ hmem;have hfew:=wR HD.o.ok hmem;have HFF:=Hh hff;have HSA:=Hh (fun j hj=>qND HD.o.ok hil HN.o (j:=j) hj);have HTK:=Hh (show d.l.take (i+1)=d.l.take i++[d.l[i]] from zn hil);have HMEM:=Hh hmem;have HFLN:=Hh (show (qR d.l[i].n).length=d.l[i].f.length by rw[← hff,zT]);have hfl3:(qR d.l[i].n).length≤200:=by rw[HFLN.o];exact hfew
   clear hent hff hmem;generalize d.l[i]=e at *;generalize qR e.n=fs at *;go_upto_region 8 with (go_at_call 136;refine HFL.o.mono ?_;rintro ev w6 ⟨A6,cap6,rfl,hr6,hb6⟩;have HR6:=Hh hr6;have HBR6:=Hh hb6;clear hr6 hb6);clear q0;have HS6:=Hh (vF HR6.o);have HB46:=Hh (HB.o.trans (HBR6.o.mono HB.o.size))
   go_loopw [28] (fun a wq=>∃ j:Nat,a=.int .i64 j∧j≤fs.length∧Hg (Below w6.heap.size w6 wq)∧Hg (∀ q∈e.f.take j,d.t.lesser q.2=none)) (fun a _=>fs.length-(intOf a).toNat)
   case atStart=>exact⟨0,rfl,zw _,Hh (zB _ _),Hh (by simp)⟩
   case round =>
    obtain⟨j,rfl,hj,HBq,HNq⟩:=hrel;have HB4q:=Hh (HB46.o.trans (HBq.o.mono HB46.o.size));have HBWq:=Hh (HB4.o.trans (HB4q.o.mono HB4.o.size));by_cases hjl:j<fs.length
    ·have j1:(j:Int)<(fs.length:Int):=by omega
     have j2:(0:Int)≤(j:Int):=by omega
     obtain⟨g6,off6,rfl,hg6,q6⟩:=(HS6.o.later HBq.o).cellAt hjl;have hjf:j<e.f.length:=by rw[← HFLN.o];exact hjl
     have hfs:fs[j]=e.f[j].1:=by
      have:=HFF.o;subst this;simp
     have HFI:=Hh (qKk (HA.o.below HBWq.o) HD.o (HE.o.below HBWq.o) HMEM.o hk (s:=e.f[j].1) (n:=e.f[j].2) (zO hjf) (HM4.o.of_block (HB4q.o.block _ HM4.o.lt)));have HSJ:=Hh (fun m hm=>HSA.o j hjf HNq.o (m:=m) hm);have HTKq:=Hh (show e.f.take (j+1)=e.f.take j++[e.f[j]] from zn hjf);have HFM:=Hh (show (e.f[j].1,e.f[j].2)∈e.f from zO hjf);rw[hfs] at q6;clear hfs;generalize e.f[j]=q at *;obtain⟨s,n⟩:=q;simp only at HFI HSJ q6 HFM
     cases hls:d.t.lesser n with
     | none =>
      go_upto_region 11 with (go_at_call 229;refine HFI.o.mono ?_;rintro ev w8 ⟨tt,is,rfl,_,hno,hb8⟩;obtain rfl:=hno hls;have HB8:=Hh (HBq.o.trans (hb8.mono HBq.o.size));clear hb8);have HLS:=Hh hls;clear hls q6;go_wp2;go_roundw
      case rel =>
       refine⟨j+1,by go_num,hjl,HB8,Hh fun q hq=>?_⟩;rw[HTKq.o] at hq
       rcases zX.1 hq with hq | hq
       ·exact HNq.o q hq
       ·rw[zg.1 hq];exact HLS.o
      case measure=>simp[intOf];omega
     | some m =>
      obtain⟨t1,t2,g1,g2,g3⟩:=HSJ.o m hls;go_upto_region 11 with (go_at_call 229;refine HFI.o.mono ?_;rintro ev w8 ⟨tt,is,rfl,hyes,_,hb8⟩;obtain⟨rfl,rfl⟩:=hyes m hls;have HB8:=Hh (HBWq.o.trans (hb8.mono HBWq.o.size));clear hb8);have HSH:=Hh (qLx (HA.o.below HB8.o) HD.o (HE.o.below HB8.o) HMEM.o hk HFM.o hls g1 g2);have HG3:=Hh g3;clear hls q6 g1 g2 g3;go_wp2_with (go_at_call 230;refine HSH.o.mono ?_;rintro ev w9 ⟨rfl,c9,he9,hd9⟩);go_ret2;unfold nX;rw[HG3.o];exact⟨rfl,c9,(Ext.of_below HB8.o c pW).trans he9,hd9⟩
    ·have j1:¬ (j:Int)<(fs.length:Int):=by omega
     obtain rfl:j=fs.length:=by omega
     have HAL:=Hh (show ∀ q∈e.f,d.t.lesser q.2=none from by have:=HNq.o;rwa [HFLN.o,zk] at this);go_wp2;go_roundw
     case rel =>
      refine⟨i+1,by go_num,hil,HB4q,Hh fun x hx=>?_⟩;rw[HTK.o] at hx
      rcases zX.1 hx with hx | hx
      ·exact HN.o x hx
      ·rw[zg.1 hx];exact HAL.o
     case measure=>simp[intOf];omega
  ·have i1:¬ (i:Int)<(d.l.length:Int):=by omega
   obtain rfl:i=d.l.length:=by omega
   have HST:=Hh (qKC (d:=d) (by have:=HN.o;rwa [zk] at this));go_wp2;go_ret2;unfold nX;rw[HST.o];exact⟨rfl,HB4.o.trans (HB.o.mono HB4.o.size)⟩
end
theorem qDK:∀ (f g:Nat) (d:Stl.Dirs),vC d→d.weight≤f→d.weight≤g→Dirs.merge f d=Dirs.merge g d
 | 0,0,_,_,_,_=>rfl
 | 0,g+1,d,hd,h1,_=>by
  have:d.step=none:=by
   cases hs:d.step with
   | none=>rfl
   | some d1=>have:=(step_ok hd hs).2.2.2.2;omega
  simp[Dirs.merge,this]
 | f+1,0,d,hd,_,h2=>by
  have:d.step=none:=by
   cases hs:d.step with
   | none=>rfl
   | some d1=>have:=(step_ok hd hs).2.2.2.2;omega
  simp[Dirs.merge,this]
 | f+1,g+1,d,hd,h1,h2=>by
  unfold Dirs.merge
  cases hs:d.step with
  | none=>rfl
  | some d1 =>
   obtain⟨k1,_,_,_,k2⟩:=step_ok hd hs;simp only;rw[qDK f g d1 k1 (by omega) (by omega)]
theorem qEr {d:Stl.Dirs}(hs:d.step=none):d.mergeAll=(0,d):=by
 unfold Dirs.mergeAll
 cases d.weight with
 | zero=>rfl
 | succ f=>unfold Dirs.merge;rw[hs]
theorem qEp {d d1:Stl.Dirs}(hd:vC d)(hs:d.step=some d1):d.mergeAll=(d1.mergeAll.1+1,d1.mergeAll.2):=by
 obtain⟨k1,_,_,_,k2⟩:=step_ok hd hs;unfold Dirs.mergeAll
 cases hw:d.weight with
 | zero=>omega
 | succ f =>
  conv=>lhs;unfold Dirs.merge
  rw[hs];simp only;rw[qDK f d1.weight d1 k1 (by omega) (zo _)]
theorem qNe {l:List Nat}{m:Nat}(h:∀ x∈l,x≤m):l.sum≤l.length*m:=by
 induction l with
 | nil=>simp
 | cons a r ih =>
  have h1:=h a (by simp);have h2:=ih (fun x hx=>h x (by simp[hx]));simp only[List.sum_cons,zQ,Nat.add_mul,Nat.one_mul];omega
theorem qFz {d:Stl.Dirs}(hd:DirsGood d):d.weight≤1000000*200000000:=by
 unfold Dirs.weight;refine zq (qNe (m:=200000000) ?_) ?_
 ·intro x hx;obtain⟨e,he,rfl⟩:=zb.1 hx;refine zq (qNe (m:=1000000) ?_) ?_
  ·intro n hn;obtain⟨q,hq,rfl⟩:=zb.1 hn;exact hd.small (jI hd.ok.keys he) q hq
  ·rw[zT];have:=wR hd.ok he;omega
 ·rw[zT];have:=hd.ents;omega
theorem qKr {d d1:Stl.Dirs}(hd:DirsGood d)(hs:d.step=some d1):DirsGood d1:=by
 have h1:=qFN hs;have h2:=step_ok hd.ok hs;have:=hd.inos;have:=hd.next;have:=hd.ents;exact⟨h2.1,by rw[h1.disk];exact hd.disk,by have:=h1.inos;omega,by have:=h1.next;omega,by have:=h1.ents;omega⟩
def qLY (w:World)(c:Nat→Col)(b:Nat)(r:Nat×Stl.Dirs)(ev:Ending)(w':World):Prop:=ev=.returned (.tuple #[.int .i64 r.1,.nilIface])∧∃ c2,Ext w w' c c2 pW∧DirsAt w' c2 b r.2
structure OaSt (w wr:World)(c:Nat→Col)(b:Nat)(d:Stl.Dirs)(p:Nat→Addr)(n:Nat)(cr:Nat→Col)(dr:Stl.Dirs):Prop where
 ext:Ext w wr c cr pW
 at_:DirsAt wr cr b dr
 good:DirsGood dr
 env:Env wr cr p
 weight:n+dr.weight≤d.weight
 eq:d.mergeAll=(n+dr.mergeAll.1,dr.mergeAll.2)
section
variable {w:World}{c:Nat→Col}{b:Nat}{d:Stl.Dirs}{p:Nat→Addr}
theorem qMi (h:DirsAt w c b d)(hd:DirsGood d)(hE:Env w c p) :
  Calls Tryz.prog 117 #[.pointer (some ⟨b,0,none⟩)] w (qLY w c b d.mergeAll):=by
 have H0:=Hh (show OaSt w w c b d p 0 c d from ⟨Ext.refl _ _ _,h,hd,hE,by omega,by simp⟩);have hwl:=qFz hd;obtain⟨res,hres⟩:∃ res,res=d.mergeAll:=⟨_,rfl⟩;rw[← hres];have HRE:=Hh hres;clear h hd hE hres;go_enter Tryz.func117,Tryz.ntmps117;go_wp2_with fail
 go_loopw [4] (fun a wr=>∃ (n:Nat) (cr:Nat→Col) (dr:Stl.Dirs),a=.int .i64 n∧Hg (OaSt w wr c b d p n cr dr)) (fun a _=>d.weight+1-(intOf a).toNat)
 case atStart=>exact⟨0,c,d,rfl,H0⟩
 case round =>
  obtain⟨n,cr,dr,rfl,HS⟩:=hrel;have HST:=Hh (qLi HS.o.at_ HS.o.good HS.o.env);have hwt:=HS.o.weight
  cases hs:dr.step with
  | none =>
   have HR:=Hh (show res=(n,dr) by rw[HRE.o,HS.o.eq,qEr hs];rfl);unfold nX at HST;rw[hs] at HST;simp only at HST;clear hs;go_wp2_with (go_at_call 169;refine HST.o.mono ?_;rintro ev w2 ⟨rfl,hb2⟩;have HB2:=Hh hb2;clear hb2);go_ret2;rw[HR.o];exact⟨rfl,cr,HS.o.ext.then (Ext.of_below HB2.o cr pW) (fun _ h=>h),HS.o.at_.below HB2.o⟩
  | some d1 =>
   have hok:=step_ok HS.o.good.ok hs;have hw2:=hok.2.2.2.2;have HG1:=Hh (qKr HS.o.good hs);have HEQ:=Hh (show d.mergeAll=(n+1+d1.mergeAll.1,d1.mergeAll.2) by
    rw[HS.o.eq,qEp HS.o.good.ok hs]
    simp only
    congr 1
    omega)
   unfold nX at HST;rw[hs] at HST;simp only at HST;clear hs hok;go_wp2_with (go_at_call 169;refine HST.o.mono ?_;rintro ev w2 ⟨rfl,c2,he2,hd2⟩;have HE2:=Hh he2;have HD2:=Hh hd2;clear he2 hd2);go_roundw
   case rel=>exact⟨n+1,c2,d1,by go_num,Hh ⟨HS.o.ext.trans HE2.o,HD2.o,HG1.o,HS.o.env.ext HE2.o rfl,by omega,HEQ.o⟩⟩
   case measure=>simp[intOf];omega
def kQ (t:Tab)(n:Nat):Nat:=match t.at_ n with | some x=>(x.links-1)*x.blocks.length | none=>0
def kI (t:Tab)(l:List Nat):Nat:=(l.map (kQ t)).sum
theorem qB9 (t:Tab)(l:List Nat)(n:Nat):kI t (l++[n])=kI t l+kQ t n:=by simp[kI]
theorem qG8 (t:Tab):t.saved=kI t t.all:=by
 have key:∀ k,k≤t.l.length→((t.l.take k).map fun | some x=>(x.links-1)*x.blocks.length | none=>0).sum=kI t ((List.range k).filter fun n=>(t.at_ n).isSome):=by
  intro k
  induction k with
  | zero=>intro _;rfl
  | succ k ih =>
   intro hk;have hk':k<t.l.length:=by omega
   rw[zn hk',zU,List.sum_append,ih (by omega),List.range_succ,List.filter_append];have hat:t.at_ k=t.l[k]:=by unfold Tab.at_;rw[zL hk'];rfl
   cases ho:t.l[k] with
   | none =>
    rw[zJ (by rw[hat,ho];decide)];simp
   | some x =>
    rw[zK (by rw[hat,ho];rfl),List.filter_nil,qB9];unfold kQ;rw[hat,ho];simp
 have:=key t.l.length (zo _);rw[zk] at this;exact this
end
end Go.Proofs.YtbmkaekimccdgaaGreatDoor
namespace Go.Proofs.YtbmkaekimccdgaaGreatDoor
open Go.RowKit Go.Sort Stl
def dT (t:Stl.Tape):Int:=match t.cut with | none=>-1 | some n=>(n:Int)
abbrev oJ (l:List UInt8):List Value:=byteCells ⟨l.toArray⟩
theorem qF9 (l:List UInt8):(oJ l).length=l.length:=by rw[byteCells_length];rfl
theorem qCW (a b:List UInt8):oJ (a++b)=oJ a++oJ b:=by simp[byteCells]
structure TapeIn (w:World)(c:Nat→Col)(b:Nat)(t:Stl.Tape)(A:Option Addr)(cap:Nat):Prop where
 own:w.heap[b]?=some (.cells #[.slice A t.b.length cap,.bool t.off,.int .i64 (dT t)] 91 (0,0))
 col:c b=.tape
 bytes:QueueAt w (fun k=>c k=.tapeL) A t.b.length cap (oJ t.b)
def TapeAt (w:World)(c:Nat→Col)(b:Nat)(t:Stl.Tape):Prop:=∃ A cap,TapeIn w c b t A cap
def vL:Col→Bool
 | .tape | .tapeL=>true
 | _=>false
section
variable {w w2:World}{c c2:Nat→Col}{S:Col→Bool}{b:Nat}{t:Stl.Tape}
theorem TapeIn.ext {A:Option Addr}{cap:Nat}(h:TapeIn w c b t A cap)(e:Ext w w2 c c2 S)(h1:S .tape=false)(h2:S .tapeL=false):TapeIn w2 c2 b t A cap :=
 ⟨(e.kept h.own h.col h1).1,(e.kept h.own h.col h1).2,h.bytes.go e.size fun k hk hO=>by
  have:=e.keep k hk (by rw[hO];exact h2)
  exact⟨this.1,this.2.trans hO⟩⟩
theorem TapeAt.ext (h:TapeAt w c b t)(e:Ext w w2 c c2 S)(h1:S .tape=false)(h2:S .tapeL=false):TapeAt w2 c2 b t:=by
 obtain⟨A,cap,h⟩:=h;exact⟨A,cap,h.ext e h1 h2⟩
theorem TapeAt.lt (h:TapeAt w c b t):b<w.heap.size:=by
 obtain⟨A,cap,h⟩:=h;exact qA h.own
def qKA (w:World)(c:Nat→Col)(s:List UInt8)(e:Ending)(w':World):Prop :=
 ∃ b c2,e=.returned (.tuple #[.pointer (some ⟨b,0,none⟩),.nilIface])∧w.heap.size≤b∧Ext w w' c c2 S0∧TapeAt w' c2 b ⟨s,false,none⟩
theorem qGr (s:List UInt8)(w:World)(hs:s.length≤4000000):∃ cap w1,(convert 9 89 (.string ⟨s.toArray⟩)).run Tryz.prog w=.ok (.slice (some ⟨w.heap.size,0,none⟩) s.length cap) w1∧QueueAt w1 (fun k=>w.heap.size≤k) (some ⟨w.heap.size,0,none⟩) s.length cap (oJ s)∧Below w.heap.size w w1:=by
 refine⟨grownCap w s.length 0 5,_,run_bytes_of_string w _ _ 5 ⟨s.toArray⟩ Tryz.underlying9 Tryz.underlying89 Tryz.underlying5,?_,⟨rfl,rfl,rfl,by simp,fun k hk=>Below.heap_alloc w.drew _ k hk⟩⟩;have hsl:ByteArray.size ⟨s.toArray⟩=s.length:=rfl;rw[hsl];have hge:=grownCap_ge w s.length 0 5;have hcm:=grownCap_le_maxLen w s.length 0 5 (by unfold maxLen;omega);generalize grownCap w s.length 0 5=C at *;have hbr:bytesRow ⟨s.toArray⟩ C=((oJ s).toArray++Array.replicate (C-s.length) (.int .u8 0)):=by
  unfold bytesRow;rw[hsl];simp[byteCells]
 have hL:=qF9 s;have hce:∀ j,(w.drew.alloc (.cells (bytesRow ⟨s.toArray⟩ C) 5 ((bytesRow ⟨s.toArray⟩ C).size,(bytesRow ⟨s.toArray⟩ C).size+1))).cell? ⟨w.heap.size,0+j,none⟩=(bytesRow ⟨s.toArray⟩ C)[j]?:=fun j=>by
  rw[zv];have:=zK1 w.drew (.cells (bytesRow ⟨s.toArray⟩ C) 5 ((bytesRow ⟨s.toArray⟩ C).size,(bytesRow ⟨s.toArray⟩ C).size+1));exact qKc this j
 have hsz:(bytesRow ⟨s.toArray⟩ C).size=C:=by
  rw[hbr];simp only[Array.size_append,List.size_toArray,Array.size_replicate,hL];omega
 refine⟨w.heap.size,0,⟨hge,fun _=>rfl,fun _=>by simp,by rw[hL];omega,fun j u hu=>?_,fun j hj=>?_⟩,fun _=>zo _,hcm⟩
 ·have hj:=(zM.1 hu).1;rw[hce,hbr,Array.getElem?_append_left (by simpa using hj)];simpa using hu
 ·have e1:0+s.length*1+j=0+(s.length+j):=by omega
  rw[e1,hce];refine⟨?_,?_⟩
  ·rw[Array.getElem?_eq_getElem (by rw[hsz];omega)];rfl
  ·have:=zK1 w.drew (.cells (bytesRow ⟨s.toArray⟩ C) 5 ((bytesRow ⟨s.toArray⟩ C).size,(bytesRow ⟨s.toArray⟩ C).size+1));unfold World.frozen?;rw[show (w.drew.alloc (.cells (bytesRow ⟨s.toArray⟩ C) 5 ((bytesRow ⟨s.toArray⟩ C).size,(bytesRow ⟨s.toArray⟩ C).size+1))).heap[w.heap.size]?=_ from this];simp only[hsz];simp;omega
theorem qJJ (s:List UInt8)(hs:s.length≤1048576)(w:World)(c:Nat→Col) :
  Calls Tryz.prog 18 #[.string ⟨s.toArray⟩] w (qKA w c s):=by
 obtain⟨cap,w1,hcv,hq,hb⟩:=qGr s w (by omega);have HQ:=Hh hq;have HB:=Hh hb;have i1:¬ (1048576:Int)<(s.length:Int):=by omega
 clear hq hb;go_enter Tryz.func18,Tryz.ntmps18;go_wp2;go_ret2;have hb2:=HB.o.alloc HB.o.size (.cells #[.slice (some ⟨w.heap.size,0,none⟩) s.length cap,.bool false,.int .i64 (-1)] 91);have hk:Below w1.heap.size w1 (w1.alloc (.cells #[.slice (some ⟨w.heap.size,0,none⟩) s.length cap,.bool false,.int .i64 (-1)] 91)):=(zB _ w1).alloc (zo _) _;refine⟨w1.heap.size,fun k=>if k<w.heap.size then c k else if k=w1.heap.size then .tape else .tapeL,rfl,HB.o.size,?_,some ⟨w.heap.size,0,none⟩,cap,?_,?_,?_⟩
 ·exact(Ext.of_below hb2 c S0).recolor fun k hk _=>zM1 hk
 ·exact zK1 w1 _
 ·have:=HB.o.size;show (if w1.heap.size<w.heap.size then c w1.heap.size else if w1.heap.size=w1.heap.size then Col.tape else Col.tapeL)=Col.tape;rw[zL1 (by omega),zM1 rfl]
 ·have hsz:=HB.o.size;refine(HQ.o.go (O':=fun k=>w.heap.size≤k∧k<w1.heap.size) (zo _) fun k hk1 hO=>⟨rfl,hO,hk1⟩).go hk.size fun k hk1 hO=>⟨hk.block k hk1,?_⟩
  show (if k<w.heap.size then c k else if k=w1.heap.size then Col.tape else Col.tapeL)=Col.tapeL;rw[zL1 (by omega),zL1 (by omega)]
def qLF (w:World)(c:Nat→Col)(b:Nat)(t:Stl.Tape)(e:Ending)(w':World):Prop:=e=.returned .nilIface∧∃ c2,Ext w w' c c2 vL∧TapeAt w' c2 b t
theorem qMF (h:TapeAt w c b t)(h1:t.off=false)(h2:t.cut=none)(s:List UInt8)(hs:t.b.length+s.length≤4000000) :
  Calls Tryz.prog 83 #[.pointer (some ⟨b,0,none⟩),.string ⟨s.toArray⟩] w (qLF w c b { t with b:=t.b++s }):=by
 obtain⟨A,cap,h⟩:=h;obtain⟨bs,off,cut⟩:=t;simp only at h1 h2 hs;subst h1 h2;have hblt:=qA h.own;obtain⟨i,hi,hz0,hz1,hz2⟩:=(show xX 5 (.int .u8 0) 1 1 from xQ (by kernel_rfl) rfl (by decide)).info;have hsrc:=Src.ofString w (P:=Tryz.prog) Tryz.underlying9 ⟨s.toArray⟩;obtain⟨A',cap',w1,happ,hq,hk⟩:=h.bytes.app (ty:=89) Tryz.underlying89 hi hz0 hz1 hz2 rfl (.string ⟨s.toArray⟩) s.length (oJ s) hsrc (by unfold maxLen;simp only;omega) (by simp only;omega);simp only at happ hq hk;have c0:=ce0 h.own;have c1:=ce1 h.own;have c2:=ce2 h.own;have hne:c b≠.tapeL:=by rw[h.col];decide
 have hb1:w1.heap[b]?=some (.cells #[.slice A bs.length cap,.bool false,.int .i64 (-1)] 91 (0,0)):=(hk.block b (qA h.own) hne).trans h.own;have d0:=ce0 hb1;have f0:=qC hb1 0;simp only[dT] at c0 c1 c2 d0;have HQ:=Hh hq;have HK:=Hh hk;have HB1:=Hh hb1;have HC:=Hh h.col;clear h hq hk hb1 hsrc hi hz0 hz1 hz2 hne;go_enter Tryz.func83,Tryz.ntmps83;go_wp2_with (at_builtin;refine qAp rfl _ _ 89 9 rfl rfl rfl happ ?_);go_ret;have hsz:=HK.o.size;have hs0:=qH HB1.o 0 (.slice A' (bs.length+s.length) cap');have he1:Ext w w1 c (fun k=>if k<w.heap.size then c k else .tapeL) vL:=⟨HK.o.os,HK.o.tape,HK.o.output,hsz,fun k hk hS=>⟨HK.o.block k hk (fun e=>by rw[e] at hS;cases hS),zM1 hk⟩⟩;have hl:(bs++s).length=bs.length+s.length:=zP;refine⟨rfl,fun k=>if k<w.heap.size then c k else .tapeL,?_,A',cap',?_,?_,?_⟩
 ·exact he1.setCell (fun _=>by simp only;rw[HC.o];rfl) _
 ·simp only[hl];simpa[dT] using hs0
 ·show (if b<w.heap.size then c b else Col.tapeL)=_;rw[zM1 hblt];exact HC.o
 ·simp only[hl];rw[qCW];refine(HQ.o.go (O':=fun k=>(c k=.tapeL∧k<w.heap.size)∨w.heap.size≤k) (zo _) fun k hk1 hO=>⟨rfl,?_⟩).go (w':=w1.setCell ⟨b,0,none⟩ (.slice A' (bs.length+s.length) cap')) (by simp[World.setCell]) fun k hk1 hO=>?_
  ·rcases hO with hO | hO
   ·by_cases hkl:k<w.heap.size
    ·exact .inl ⟨hO,hkl⟩
    ·exact .inr (by omega)
   ·exact .inr hO
  ·have hkb:k≠b:=by
    rcases hO with ⟨hO,_⟩ | hO
    ·intro e;subst e;rw[HC.o] at hO;cases hO
    ·omega
   refine⟨zA _ ⟨b,0,none⟩ _ k hkb,?_⟩;show (if k<w.heap.size then c k else Col.tapeL)=_
   rcases hO with ⟨hO,h2⟩ | hO
   ·rw[zM1 h2];exact hO
   ·rw[zL1 (by omega)]
end
end Go.Proofs.YtbmkaekimccdgaaGreatDoor
namespace Go.Proofs.YtbmkaekimccdgaaGreatDoor
open Go.RowKit Go.Sort Go.Shelf Stl
theorem qBH {B:Nat}{a w:World}(h:Below B a w)(hB:B≤w.heap.size)(os:Array Obj):Below B a (grow w os) :=
 ⟨h.os,h.tape,h.output,by have:=h.size;simp only[size_grow];omega,fun b hb=>by
  rw[← h.block b hb]
  exact Array.getElem?_append_left (zt hb hB)⟩
theorem pS (ch:UInt8){s:List UInt8}(h:cutAt ch s=none)(hs:s.length≤4000000)(w:World)(hm:∃ m,w.cell? ⟨14,0,none⟩=some (.int .i64 m)) :
  Calls Tryz.prog 72 #[.string ⟨s.toArray⟩,.string ⟨#[ch]⟩] w fun e w'=>e=.returned (.tuple #[.string ⟨s.toArray⟩,.string ⟨#[]⟩,.bool false])∧Below w.heap.size w w':=by
 obtain⟨m,hm⟩:=hm;refine(Tryz.strings_Cut ⟨s.toArray⟩ ⟨#[ch]⟩ m w (by show s.toArray.size<4294967281;simp;omega) hm).mono ?_;rintro e w' ⟨rfl,n,rfl⟩;have:=qNc ch s;rw[h] at this;refine⟨?_,Below.drewN (zB _ w) n⟩;show Ending.returned (.tuple #[.string ⟨(Lib.cut s.toArray.toList [ch]).1.toArray⟩,.string ⟨(Lib.cut s.toArray.toList [ch]).2.1.toArray⟩,.bool (Lib.cut s.toArray.toList [ch]).2.2])=_;simp[this]
theorem gU (ch:UInt8){s a b:List UInt8}(h:cutAt ch s=some (a,b))(hs:s.length≤4000000)(w:World)(hm:∃ m,w.cell? ⟨14,0,none⟩=some (.int .i64 m)) :
  Calls Tryz.prog 72 #[.string ⟨s.toArray⟩,.string ⟨#[ch]⟩] w fun e w'=>e=.returned (.tuple #[.string ⟨a.toArray⟩,.string ⟨b.toArray⟩,.bool true])∧Below w.heap.size w w':=by
 obtain⟨m,hm⟩:=hm;refine(Tryz.strings_Cut ⟨s.toArray⟩ ⟨#[ch]⟩ m w (by show s.toArray.size<4294967281;simp;omega) hm).mono ?_;rintro e w' ⟨rfl,n,rfl⟩;have:=qNc ch s;rw[h] at this;refine⟨?_,Below.drewN (zB _ w) n⟩;show Ending.returned (.tuple #[.string ⟨(Lib.cut s.toArray.toList [ch]).1.toArray⟩,.string ⟨(Lib.cut s.toArray.toList [ch]).2.1.toArray⟩,.bool (Lib.cut s.toArray.toList [ch]).2.2])=_;simp[this]
def NumIs (o:Option Nat)(n:Int)(ok:Bool):Prop:=(o=none∧ok=false)∨∃ m:Nat,o=some m∧ok=true∧n=(m:Int)
def qNG (o:Option Nat)(e:Ending):Prop:=∃ (n:Int) (ok:Bool),e=.returned (.tuple #[.int .i64 n,.bool ok])∧NumIs o n ok
theorem qK3 {s:List UInt8}(h:∀ n:Nat,¬ (Lib.atoiAll s=.ok (n:Int)∧s.length≤6∧Lib.itoa (n:Int)=s)):qI s 6=none:=by
 cases hn:qI s 6 with
 | none=>rfl
 | some n=>exact absurd ((wV s 6 (by omega) n).1 hn) (h n)
theorem qDE {s:List UInt8}{v:Int}(h:Lib.atoiAll s=.ok v):v≤9223372036854775807:=by
 unfold Lib.atoiAll at h
 cases s with
 | nil=>cases h
 | cons c r =>
  simp only at h;split at h
  ·cases h
  ·cases h
  ·rename_i u _
   split at h
   ·cases h
   ·split at h
    ·cases h
    ·injection h with h
     rename_i h1 _
     subst h;split
     ·omega
     ·rename_i h2
      have:¬ 9223372036854775808≤u:=fun h3=>h1 ⟨h2,h3⟩
      omega
theorem kH (s:List UInt8)(hs:s.length≤4000000)(w:World)(hv:LibVars w) :
  Calls Tryz.prog 55 #[.string ⟨s.toArray⟩] w fun e w'=>Below w.heap.size w w'∧qNG (qI s 6) e:=by
 obtain⟨e2,hsy1,hsy2⟩:=hv.syn;obtain⟨e3,hrg1,hrg2⟩:=hv.rng;have HP:=Hh hv.pow
 rcases ha:Lib.atoiAll s with v | _ | _
 ·
  have HA:=Hh ha;have HAT:=Hh (show Calls Tryz.prog 95 #[.string ⟨s.toArray⟩] w fun e w'=>e=.returned (.tuple #[.int .i64 v,.nilIface])∧Below w.heap.size w w' from (Tryz.strconv_Atoi_ok ⟨s.toArray⟩ (by show s.toArray.size≤_;simp;omega) v (by simpa using ha) w).mono (by
   rintro e w' ⟨rfl,h⟩
   refine⟨rfl,?_⟩
   rcases h with rfl | ⟨t,rfl⟩
   ·exact zB _ _
   ·exact Lib.bytesWorld_below w _ t))
  clear ha hsy1 hsy2 hrg1 hrg2 hv;have HNO:=Hh (show (∀ n:Nat,v=(n:Int)→¬ (s.length≤6∧Lib.itoa (n:Int)=s))→qI s 6=none from fun h=>qK3 fun n ⟨h1,h2⟩=>by
   rw[HA.o] at h1
   injection h1 with h1
   exact h n h1 h2)
  by_cases h6:s.length≤6
  case neg =>
   have HN:=Hh (HNO.o fun n _ h=>h6 h.1);have i6:¬ (s.length:Int)≤6:=by omega
   clear h6;go_enter Tryz.func55,Tryz.ntmps55;go_wp2_with (go_at_call 95;refine HAT.o.mono ?_;rintro ev w2 ⟨rfl,hb2⟩;have HB2:=Hh hb2;clear hb2);go_ret2;exact⟨HB2.o,v,false,rfl,.inl ⟨HN.o,rfl⟩⟩
  case pos =>
  have i6:(s.length:Int)≤6:=by omega
  by_cases h0:0≤v
  case neg =>
   have HN:=Hh (HNO.o fun n hn _=>h0 (by omega));clear h6;go_enter Tryz.func55,Tryz.ntmps55;go_wp2_with (go_at_call 95;refine HAT.o.mono ?_;rintro ev w2 ⟨rfl,hb2⟩;have HB2:=Hh hb2;clear hb2);go_ret2;exact⟨HB2.o,v,false,rfl,.inl ⟨HN.o,rfl⟩⟩
  case pos =>
  obtain⟨n,rfl⟩:=Int.eq_ofNat_of_zero_le h0;have hbig:(n:Int)≤9223372036854775807:=by
   have:=qDE HA.o;omega
  have H6:=Hh h6;have HIT:=Hh (fun (w2:World) (hb:Below w.heap.size w w2)=>(show Calls Tryz.prog 64 #[.int .i64 n] w2 fun e w'=>e=.returned (.string ⟨(Lib.itoa (n:Int)).toArray⟩)∧Below w2.heap.size w2 w' from (Tryz.strconv_Itoa n (by omega) hbig w2 (qCj HP.o hb)).mono (by
   rintro e w' ⟨rfl,k,os,rfl⟩
   exact⟨rfl,qBH (Below.drewN (zB _ w2) k) (zo _) os⟩)))
  by_cases hi:Lib.itoa (n:Int)=s
  case neg =>
   have HN:=Hh (HNO.o fun m hm h=>hi (by rw[hm];exact h.2));have hq:(Lib.itoa (n:Int)==s)=false:=by simpa using hi
   clear h6 hi;generalize Lib.itoa (n:Int)=t at *;go_enter Tryz.func55,Tryz.ntmps55;go_wp2_with (first
    | (go_at_call 95;refine HAT.o.mono ?_;rintro ev w2 ⟨rfl,hb2⟩;have HB2:=Hh hb2;clear hb2)
    | (go_at_call 64;refine(HIT.o w2 HB2.o).mono ?_;rintro ev w3 ⟨rfl,hb3⟩;have HB3:=Hh (HB2.o.trans (hb3.mono HB2.o.size));clear hb3)
    | fail)
   go_ret2;exact⟨HB3.o,n,false,rfl,.inl ⟨HN.o,rfl⟩⟩
  case pos =>
   have HN:=Hh ((wV s 6 (by omega) n).2 ⟨HA.o,H6.o,hi⟩);have hq:(Lib.itoa (n:Int)==s)=true:=by simpa using hi
   clear h6 hi;generalize Lib.itoa (n:Int)=t at *;go_enter Tryz.func55,Tryz.ntmps55;go_wp2_with (first
    | (go_at_call 95;refine HAT.o.mono ?_;rintro ev w2 ⟨rfl,hb2⟩;have HB2:=Hh hb2;clear hb2)
    | (go_at_call 64;refine(HIT.o w2 HB2.o).mono ?_;rintro ev w3 ⟨rfl,hb3⟩;have HB3:=Hh (HB2.o.trans (hb3.mono HB2.o.size));clear hb3)
    | fail)
   go_ret2;exact⟨HB3.o,n,true,rfl,.inr ⟨n,HN.o,rfl,rfl⟩⟩
 ·
  have HN:=Hh (qK3 (s:=s) fun n h=>by rw[ha] at h;cases h.1);have HAT:=Hh (Tryz.strconv_Atoi_syntax ⟨s.toArray⟩ (by show s.toArray.size≤_;simp;omega) (by first | simpa using ha | exact ha) e2 w hsy1 hsy2);clear ha hsy1 hsy2 hrg1 hrg2 hv;go_enter Tryz.func55,Tryz.ntmps55;go_wp2_with (go_at_call 95;refine HAT.o.mono ?_;rintro ev w2 ⟨N,rfl,_,_,hb2⟩;have HB2:=Hh hb2;clear hb2);go_ret2;exact⟨HB2.o,0,false,rfl,.inl ⟨HN.o,rfl⟩⟩
 ·
  have HN:=Hh (qK3 (s:=s) fun n h=>by rw[ha] at h;cases h.1);have HAT:=Hh (Tryz.strconv_Atoi_range ⟨s.toArray⟩ (by show s.toArray.size≤_;simp;omega) (by simpa using ha) e3 w hrg1 hrg2);clear ha hsy1 hsy2 hrg1 hrg2 hv;go_enter Tryz.func55,Tryz.ntmps55;go_wp2_with (go_at_call 95;refine HAT.o.mono ?_;rintro ev w2 ⟨N,rfl,_,_,hb2⟩;have HB2:=Hh hb2;clear hb2);go_ret2;exact⟨HB2.o,_,false,rfl,.inl ⟨HN.o,rfl⟩⟩
theorem xZ (n:Nat)(hn:n≤9223372036854775807)(w:World)(hv:LibVars w) :
  Calls Tryz.prog 64 #[.int .i64 n] w fun e w'=>e=.returned (.string ⟨(dec n).toArray⟩)∧Below w.heap.size w w' :=
 (Tryz.strconv_Itoa n (by omega) (by omega) w hv.pow).mono (by
  rintro e w' ⟨rfl,k,os,rfl⟩
  exact⟨by rw[pA],qBH (Below.drewN (zB _ w) k) (zo _) os⟩)
theorem kO:∀ (f n:Nat),(oV f n).length≤f
 | 0,_=>zo _
 | f+1,n=>by
  unfold oV;split
  ·simp
  ·have:=kO f (n/10);simp only[zP,zQ,List.length_nil];omega
theorem qDF (s:List UInt8)(hs:s.length≤4000000)(w:World)(hv:LibVars w) :
  Calls Tryz.prog 82 #[.string ⟨s.toArray⟩] w fun e w'=>e=.returned (.string ⟨(record s).toArray⟩)∧Below w.heap.size w w':=by
 have HI:=Hh (xZ s.length (by omega) w hv);have HR:=Hh (show record s=dec s.length++58::(s++[10,46]) from rfl);have hds:(dec s.length).length≤4000001:=zq (kO _ _) (by omega);generalize record s=r at HR ⊢;generalize dec s.length=ds at HI HR hds;clear hv;go_enter Tryz.func82,Tryz.ntmps82;go_wp2_with (go_at_call 64;refine HI.o.mono ?_;rintro e w2 ⟨rfl,hb2⟩;have HB2:=Hh hb2;clear hb2);go_ret;refine⟨?_,HB2.o⟩;rw[HR.o];show Ending.returned (.string _)=Ending.returned (.string _);congr 2;apply ByteArray.ext;simp[ByteArray.data_append]
def qHh (p:Nat→Addr)(w:World)(c:Nat→Col)(b:Nat)(r:Nat×Stl.Tape)(e:Ending)(w':World):Prop:=e=.returned (jK p r.1)∧∃ c2,Ext w w' c c2 vL∧TapeAt w' c2 b r.2
theorem join_eq:∀ l:List (List UInt8),l≠[]→Lib.join l [32]=qT l
 | [],h=>absurd rfl h
 | [x],_=>by simp[Lib.join,qT]
 | x::y::r,_=>by
  have:=join_eq (y::r) (by simp);simp only[Lib.join,qT] at this ⊢;simp[this]
theorem yE {w:World}{A:Option Addr}{cap:Nat}{l:List (List UInt8)}(h:Strs w (.slice A l.length cap) l)(hcap:l.length≤cap)(hl:l.length≤1000000)(hj:(qT l).length≤140737488355328) :
  Calls Tryz.prog 61 #[.slice A l.length cap] w fun e w'=>e=.returned (.string ⟨(qT l).toArray⟩)∧Below w.heap.size w w':=by
 by_cases hn:l=[]
 ·subst hn;clear h;go_enter Tryz.func61,Tryz.ntmps61;go_wp2;go_ret;exact⟨rfl,zB _ _⟩
 ·obtain⟨A2,c2,e,h1⟩:=h;injection e with e1 e2 e3
  subst e1 e3;obtain⟨b,off,rfl,hb,hc⟩:=h1 hn;have hpos:0<l.length:=by
   cases l with
   | nil=>exact absurd rfl hn
   | cons=>simp
  have HJ:=Hh (Tryz.strings_Join b off cap (l.map fun x=>(⟨x.toArray⟩:ByteArray)) ⟨#[32]⟩ w (fun j x hx=>by
   rw[zN] at hx
   cases hx2:l[j]? with
   | none=>rw[hx2] at hx;cases hx
   | some y =>
    rw[hx2] at hx
    simp only[zA1,zB1] at hx
    rw[← hx]
    exact hc j y hx2) hb (by simp;omega) (by simpa using hcap) (by
     have e:(l.map fun x=>(⟨x.toArray⟩:ByteArray)).map (·.data.toList)=l:=by rw[zW];exact List.map_id' l
     rw[e]
     clear e
     have:Lib.join l [32]=qT l:=join_eq l hn
     rw[show (⟨#[32]⟩:ByteArray).data.toList=[32] from rfl,this]
     exact hj))
  rw[show (l.map fun x=>(⟨x.toArray⟩:ByteArray)).map (·.data.toList)=l by rw[zW];exact List.map_id' l,show (⟨#[32]⟩:ByteArray).data.toList=[32] from rfl,join_eq l hn,zT] at HJ;generalize qT l=r at HJ ⊢;have i1:¬ (l.length:Int)=0:=by omega
  clear h1 hc hn hcap e2;go_enter Tryz.func61,Tryz.ntmps61;go_wp2_with (go_at_call 101;refine HJ.o.mono ?_;rintro e w' ⟨rfl,hb'⟩);go_ret;exact⟨rfl,hb'⟩
end Go.Proofs.YtbmkaekimccdgaaGreatDoor
