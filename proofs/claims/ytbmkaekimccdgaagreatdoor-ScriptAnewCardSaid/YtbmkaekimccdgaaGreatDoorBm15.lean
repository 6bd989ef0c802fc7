/- Lemmas. -/
import Derived.Deep.Slices
import Derived.Deep.Strs
import Derived.LaidSub
import Derived.Lib.LaidTab
import Derived.Lib.OwnBridge
import Derived.OpenShut
import Derived.Sort.OwnSorted
import Derived.Stop.LaidErr
import Derived.Test.YtbmkaekimccdgaaGreatDoorRows
import Derived.Test.YtbmkaekimccdgaaGreatDoorBm14
set_option maxHeartbeats 16000000
set_option maxRecDepth 1000000
set_option linter.all false
namespace Stl
def reft (names:List qB)(l:List It):List qB:=(l.filter fun x=>x.n.kind != kDir).flatMap fun x=>found x.n.data names
theorem reft_append (names:List qB)(l m:List It):reft names (l++m)=reft names l++reft names m:=by simp[reft]
theorem reft_dir (names:List qB)(x:It)(h:x.n.kind=kDir):reft names [x]=[]:=by simp[reft,h]
theorem reft_other (names:List qB)(x:It)(h:x.n.kind≠kDir):reft names [x]=found x.n.data names:=by simp[reft,h]
theorem reft_length (names:List qB):∀ (l:List It),(∀ x∈l,x.n.data.length≤2000)→(reft names l).length≤2000*l.length
 | [],_=>by simp[reft]
 | x::r,h=>by
  have ih:=reft_length names r (fun y hy=>h y (by simp[hy]));have hx:=h x (by simp);have e:reft names (x::r)=reft names [x]++reft names r:=by rw[← reft_append];rfl
  rw[e,zP,zQ];have:(reft names [x]).length≤2000:=by
   by_cases hk:x.n.kind=kDir
   ·rw[reft_dir names x hk];simp
   ·rw[reft_other names x hk];exact zq (found_length _ _) hx
  omega
end Stl
namespace Go.Proofs.YtbmkaekimccdgaaGreatDoor
open Go.RowKit Go.Maps Go.Sort Go.Shelf
theorem pO:∃ i:TypeInfo,Tryz.prog.info? 9=some i∧i.zero=some (.string ByteArray.empty)∧i.size=1∧i.bytes=16:=by
 have h:(Tryz.prog.info? 9).map (fun i=>(i.zero,i.size,i.bytes))=some (some (.string ByteArray.empty),1,16):=by kernel_rfl
 cases hi:Tryz.prog.info? 9 with
 | none=>rw[hi] at h;cases h
 | some i =>
  rw[hi] at h;simp only[zA1,zB1,Prod.mk.injEq] at h;exact⟨i,rfl,h.1,h.2.1,h.2.2⟩
structure RSt (w0 W:World)(nv:Value)(b3 b5:Nat)(names:List (List UInt8))(pre:List Stl.It):Prop where
 nms:W.heap[b3]?=some (.cells #[nv] 22 (0,0))
 o:∃ A c,W.heap[b5]?=some (.cells #[.slice A (Stl.reft names pre).length c] 22 (0,0))∧W.ownsRow w0.heap.size 9 1 (.slice A (Stl.reft names pre).length c) (Stl.reft names pre).length ((Stl.reft names pre).map encStr)
 strs0:Strs w0 nv names
 old:w0.heap.size≤b5
 ne:b3≠b5
 below:Below w0.heap.size w0 W
theorem RSt.strs {w0 W:World}{nv:Value}{b3 b5:Nat}{names:List (List UInt8)}{pre:List Stl.It}(h:RSt w0 W nv b3 b5 names pre):Strs W nv names:=h.strs0.later h.below
theorem RSt.later {w0 W W':World}{nv:Value}{b3 b5:Nat}{names:List (List UInt8)}{pre:List Stl.It}(h:RSt w0 W nv b3 b5 names pre)(hb:Below W.heap.size W W'):RSt w0 W' nv b3 b5 names pre:=by
 obtain⟨A,c,h1,h2⟩:=h.o;exact⟨(hb.block _ (zN1 h.nms)).trans h.nms,⟨A,c,(hb.block _ (zN1 h1)).trans h1,h2.kept (Below.toGrown hb none) (by cases Value.ownBlock (Value.slice A (Stl.reft names pre).length c)<;>simp)⟩,h.strs0,h.old,h.ne,h.below.trans (hb.mono h.below.size)⟩
theorem vI {W:World}{base:Nat}{v:Value}{n:Nat}{xs:List Value}(h:W.ownsRow base 9 1 v n xs){b:Nat}{cs:Array Value}{T:TypeId}{fr:Nat×Nat}(hb:W.heap[b]?=some (.cells cs T fr))(hT:T≠9):some b≠v.ownBlock:=by
 intro e
 rcases h.2 with ⟨hv,_⟩ | ⟨g,cap,cur,hv,_,hg,_⟩
 ·rw[hv] at e;simp[Value.ownBlock] at e
 ·rw[hv] at e;have:b=g:=by simpa[Value.ownBlock] using e
  subst this;rw[hb] at hg;injection hg with hg
  injection hg with _ hg
  exact hT hg
theorem mB (l:List (List UInt8)):∀ u∈l.map encStr,u.oneCell'=true:=fun u hu=>by
 obtain⟨y,_,rfl⟩:=zb.1 hu;rfl
theorem qLE {W:World}{base:Nat}{e:TypeId}{A:Option Addr}{n c:Nat}{xs:List Value}(h:W.ownsRow base e 1 (.slice A n c) n xs):A=none→n=0∧c=0:=by
 rintro rfl
 rcases h.2 with ⟨hv,h2⟩ | ⟨g,cap,cur,hv,_⟩
 ·injection hv with _ _ h3
  exact⟨h2,h3⟩
 ·injection hv with h1
  cases h1
theorem qFq {W:World}{base:Nat}{e:TypeId}{A:Option Addr}{n c:Nat}{xs:List Value}(h:W.ownsRow base e 1 (.slice A n c) n xs):∀ ad,A=some ad→∀ j u,xs[j]?=some u→W.cell? (ad.add j)=some u:=by
 rintro ad rfl j u hu
 rcases h.2 with ⟨hv,h2⟩ | ⟨g,cap,cur,hv,_⟩
 ·injection hv with h1
  cases h1
 ·injection hv with h1
  injection h1 with h1
  subst h1;exact World.ownsRow.cells h (g:=g) rfl j u hu
theorem qJO {w0 W W1 w2 w3:World}{nv:Value}{b3 b5:Nat}{names:List (List UInt8)}{pre:List Stl.It}{x:Stl.It}{Ao A3:Option Addr}{co c3:Nat}{acc fd:List (List UInt8)}
  (HS1:RSt w0 W1 nv b3 b5 names pre) (HB:Below W.heap.size W W1) (HO1:W1.heap[b5]?=some (.cells #[.slice Ao acc.length co] 22 (0,0))) (HB2:Below W1.heap.size W1 w2)
  (HO3:w2.ownsRow w0.heap.size 9 1 (.slice Ao acc.length co) acc.length (acc.map encStr)) (HO4:w3.ownsRow w0.heap.size 9 1 (.slice A3 (acc.length+fd.length) c3) (acc.length+fd.length) (acc.map encStr++fd.map encStr))
  (HG3:w2.grownBy w3 (Value.slice Ao acc.length co).ownBlock) (HR:Stl.reft names (pre++[x])=acc++fd) :
  RSt w0 (w3.setCell ⟨b5,0,none⟩ (.slice A3 (acc.length+fd.length) c3)) nv b3 b5 names (pre++[x])∧NKeep W (w3.setCell ⟨b5,0,none⟩ (.slice A3 (acc.length+fd.length) c3)):=by
 have s2:=(HB2.block _ (zN1 HO1)).trans HO1;have s3:=(HG3.block _ (zN1 s2) (vI HO3 s2 (by decide))).trans s2;have n2:=(HB2.block _ (zN1 HS1.nms)).trans HS1.nms;have n3:=(HG3.block _ (zN1 n2) (vI HO3 n2 (by decide))).trans n2;have hz:=HS1.below.size;have hb2:Below w0.heap.size w0 w2:=HS1.below.trans (HB2.mono hz);have hb3:Below w0.heap.size w0 w3:=hb2.grown HG3 hb2.size (fun k hk=>(HO3.lt k hk).1);refine⟨⟨?_,⟨A3,c3,?_,?_⟩,HS1.strs0,HS1.old,HS1.ne,hb3.setCell HS1.old _⟩,?_⟩
 ·rw[zA _ _ _ _ HS1.ne];exact n3
 ·rw[one_setCell s3,HR];simp
 ·rw[HR,zP,zU];exact zO1 HO4 (vI HO4 s3 (by decide)).symm _
 ·intro k cs T fr hk h1 h2;have k1:=(HB.block _ (zN1 hk)).trans hk;have k2:=(HB2.block _ (zN1 k1)).trans k1;have k3:=(HG3.block _ (zN1 k2) (vI HO3 k2 h1)).trans k2;rw[zA _ _ _ _ (by
   rintro rfl
   rw[s3] at k3
   injection k3 with k3
   injection k3 with _ k3
   exact h2.1 k3.symm)]
  exact k3
theorem qLe {w0 W:World}{nv:Value}{b3 b5:Nat}{names:List (List UInt8)}{pre:List Stl.It}(x:Stl.It)(vs:List Value)(path:List UInt8)(h:RSt w0 W nv b3 b5 names pre)(W0:World)(hn:NodeAt W0 x.n vs)
  (hd:x.n.data.length≤2000) (hp:(Stl.reft names pre).length≤1000000) (hnm:names.length≤1000000) :
  Calls Tryz.prog 171 (#[.agg vs.toArray,.string ⟨path.toArray⟩]++#[.pointer (some ⟨b5,0,none⟩),.pointer (some ⟨b3,0,none⟩)]) W (dA (fun l W'=>RSt w0 W' nv b3 b5 names l) (pre++[x]) W):=by
 obtain⟨p',deep,n⟩:=x;obtain⟨k,d,e,ks⟩:=n;obtain⟨A,c,rfl,_,_⟩:=hn.open;have HS:=Hh h;have hb1:Below W.heap.size W (W.alloc (.cells #[.string ⟨k.toArray⟩,.string ⟨d.toArray⟩,.bool e,.slice A ks.length c] 134)):=(zB _ W).alloc (zo _) _;have HS1:=Hh (h.later hb1);clear h hn;by_cases hk:k=Stl.kDir
 ·have h1:(k==[100,105,114])=true:=by rw[hk];decide
  have HR:=Hh (show Stl.reft names (pre++[⟨p',deep,.mk k d e ks⟩])=Stl.reft names pre by rw[Stl.reft_append,Stl.reft_dir names ⟨p',deep,.mk k d e ks⟩ hk,List.append_nil]);have HB:=Hh hb1;clear hk hb1;go_enter Tryz.func171,Tryz.ntmps171;go_wp2;go_end0;refine⟨rfl,?_,NKeep.of_below HB.o⟩;obtain⟨q1,q2,q3,q4,q5,q6⟩:=HS1.o;exact⟨q1,by rw[HR.o];exact q2,q3,q4,q5,q6⟩
 ·have h1:(k==[100,105,114])=false:=by rw[zG1];exact hk
  have HR:=Hh (show Stl.reft names (pre++[⟨p',deep,.mk k d e ks⟩])=Stl.reft names pre++Stl.found d names by rw[Stl.reft_append,Stl.reft_other names ⟨p',deep,.mk k d e ks⟩ hk];rfl);have hfl:=Stl.found_length d names;have HB:=Hh hb1;obtain⟨Ao,co,ho1,ho2⟩:=HS1.o.o;generalize Stl.reft names pre=acc at HR ho1 ho2 hp;have HO1:=Hh ho1;have HO2:=Hh ho2;have c5:=cell_of_one ho1;have f5:=free_of_one ho1;have c3:=cell_of_one HS1.o.nms;have hbx:=zK1 W (.cells #[.string ⟨k.toArray⟩,.string ⟨d.toArray⟩,.bool e,.slice A ks.length c] 134);have HBX:=Hh hbx;have d1:=ce1 hbx;obtain⟨i0,hi,hz0,hz1,hz2⟩:=pO;have Hi:=Hh hi;have Hz0:=Hh hz0;have Hz1:=Hh hz1;have Hz2:=Hh hz2;simp only[Stl.Nd.data] at hd;have hd2:d.length≤1000000:=by omega
  clear hk hb1 ho1 ho2 hi hz0 hz1 hz2 hbx;go_enter Tryz.func171,Tryz.ntmps171;go_upto_region 2 with fail;generalize W.alloc (.cells #[.string ⟨k.toArray⟩,.string ⟨d.toArray⟩,.bool e,.slice A ks.length c] 134)=W1 at *
  go_region_law
   (first
    | (refine Stl.step_app _ (by rfl) (.tmp 9) (.tmp 13) 22 (by rfl) w0.heap.size 9 i0 (.string ByteArray.empty) 1 16 Tryz.underlying22 Hi.o Hz0.o Hz1.o Hz2.o rfl (by decide) (.slice Ao acc.length co) acc.length (acc.map encStr) (by rfl) HO3.o A2 (Stl.found d names).length c2 ((Stl.found d names).map encStr) (by rfl) (by simp) (qLE HRW2.o) (qFq HRW2.o) (mB _) (by unfold maxLen;omega) (by omega) (zq HS1.o.below.size HB2.o.size) ?_;intro A3 c3' w3 hown3 hgr3 _;have HO4:=Hh hown3;have HG3:=Hh hgr3;have s5:=(hgr3.cell_far ⟨b5,0,none⟩ (zt (zN1 HO1.o) HB2.o.size) (vI HO3.o ((HB2.o.block _ (zN1 HO1.o)).trans HO1.o) (by decide))).trans s5;have s1:=(hgr3.cell_far ⟨W.heap.size,1,none⟩ (zt (zN1 HBX.o) HB2.o.size) (vI HO3.o ((HB2.o.block _ (zN1 HBX.o)).trans HBX.o) (by decide))).trans s1;have s3:=(hgr3.cell_far ⟨b3,0,none⟩ (zt (zN1 HS1.o.nms) HB2.o.size) (vI HO3.o ((HB2.o.block _ (zN1 HS1.o.nms)).trans HS1.o.nms) (by decide))).trans s3;have fz:=(hgr3.frozen_far ⟨b5,0,none⟩ (zt (zN1 HO1.o) HB2.o.size) (vI HO3.o ((HB2.o.block _ (zN1 HO1.o)).trans HO1.o) (by decide))).trans ((HB2.o.frozen (p:=⟨b5,0,none⟩) (zN1 HO1.o)).trans f5);clear hown3 hgr3)
    | (go_simp;go_at_call 172;refine(qM3 d hd2 nv names hnm _ ?_).mono ?_;exact HS1.o.strs;rintro ev w2 ⟨v2,rfl,hrow2,hb2'⟩;have hb2:Below W1.heap.size W1 w2:=⟨hb2'.os,hb2'.tape,hb2'.output,hb2'.size,hb2'.block⟩;clear hb2';obtain⟨A2,c2,rfl⟩:=Stl.owns_slice _ hrow2;have HB2:=Hh hb2;have HRW2:=Hh hrow2;have HO3:=Hh (HO2.o.kept (Below.toGrown HB2.o none) (by cases Value.ownBlock (Value.slice Ao acc.length co)<;>simp));have s5:=(HB2.o.cell (p:=⟨b5,0,none⟩) (zN1 HO1.o)).trans c5;have s1:=(HB2.o.cell (p:=⟨W.heap.size,1,none⟩) (zN1 HBX.o)).trans d1;have s3:=(HB2.o.cell (p:=⟨b3,0,none⟩) (zN1 HS1.o.nms)).trans c3;clear hb2 hrow2 c5 d1 c3)
    | fail)
  all_goals
   go_end0;exact⟨rfl,qJO HS1.o HB.o HO1.o HB2.o HO3.o HO4.o HG3.o HR.o⟩
theorem qCF (A:Option Addr)(c base:Nat)(l:List (List UInt8))(hl:l.length≤100000000)(w:World)(h:w.ownsRow base 9 1 (.slice A l.length c) l.length (l.map encStr)) :
  Calls Tryz.prog 173 #[.slice A l.length c] w fun e w'=>e=.returned (.tuple #[])∧w'.ownsRow base 9 1 (.slice A l.length c) l.length ((l.mergeSort leB).map encStr)∧w.grownBy w' (Value.slice A l.length c).ownBlock:=by
 rcases h.2 with ⟨hv,h0⟩ | ⟨g,cap,cur,hv,hbase,hb,h1,h2,h3,h4⟩
 ·have hn:l=[]:=zR.1 h0;subst hn;refine(AnyM.slices_Sort_string_none Tryz.sortS A c w).mono ?_;rintro e w' ⟨rfl,rfl⟩;exact⟨rfl,by simpa using h,rfl,rfl,rfl,zo _,fun _ _ _=>rfl⟩
 ·injection hv with e1 e2 e3
  subst e1 e3;refine(AnyM.slices_Sort_string Tryz.sortS g 0 c l w (holds_of_block hb (by simpa using h4)) (Array.getElem?_eq_some_iff.1 hb).1 (by omega)).mono ?_;rintro e w' ⟨rfl,n,os,rfl⟩;refine⟨rfl,ownsRow_sorted (by simp) hbase hb h1 h2 h3,grownBy_sorted _⟩
theorem compact_length_le (l:List (List UInt8)):(Lib.compact l).length≤l.length:=by
 unfold Lib.compact;have:∀ (xs:Array (List UInt8)) m,(Lib.compactUpTo xs m).length≤m:=by
  intro xs m
  induction m with
  | zero=>simp[Lib.compactUpTo]
  | succ m ih =>
   rw[Lib.compactUpTo_succ];split
   ·simp;omega
   ·simp;omega
 exact this _ _
theorem qDc (A:Option Addr)(c base:Nat)(l:List (List UInt8))(hl:l.length≤100000000)(w:World)(h:w.ownsRow base 9 1 (.slice A l.length c) l.length (l.map encStr)) :
  Calls Tryz.prog 174 #[.slice A l.length c] w fun e w'=>e=.returned (.slice A (Lib.compact l).length c)∧w'.ownsRow base 9 1 (.slice A (Lib.compact l).length c) (Lib.compact l).length ((Lib.compact l).map encStr)∧w.grownBy w' (Value.slice A l.length c).ownBlock:=by
 rcases h.2 with ⟨hv,h0⟩ | ⟨g,cap,cur,hv,hbase,hb,h1,h2,h3,h4⟩
 ·have hn:l=[]:=zR.1 h0;subst hn;refine(Tryz.slices_Compact_string_empty A c w).mono ?_;rintro e w' ⟨rfl,rfl⟩;exact⟨rfl,h,rfl,rfl,rfl,zo _,fun _ _ _=>rfl⟩
 ·injection hv with e1 e2 e3
  subst e1 e3;have hk:=compact_length_le l;refine(Tryz.slices_Compact_string g 0 c l w (holds_of_block hb (by simpa using h4)) (by omega) h1).mono ?_;rintro e w' ⟨rfl,q,rfl⟩;refine⟨rfl,?_,rfl,rfl,rfl,by simp[putRow,mapBlock,Sort.ahead],fun k hk hne=>by
   have:g≠k:=fun e=>hne (by simp[Value.ownBlock,e])
   simp[putRow,mapBlock,Sort.ahead,Array.getElem?_modify,this]⟩
  have:=Lib.ownsRow_putRow (q:=q) (k:=(Lib.compact l).length) (ys:=Lib.compact l++List.replicate (l.length-(Lib.compact l).length) []) h (by simp;omega) hk;simpa using this
theorem qFd:∀ args w,(callFunc 171 args).run Tryz.prog w=.ok (.enter 171 args) w:=enters_of Tryz.func171 (by kernel_rfl) rfl
def dL (l:List (List UInt8))(w:World)(e:Ending)(w':World):Prop:=∃ A c,e=.returned (.slice A l.length c)∧w'.ownsRow w.heap.size 9 1 (.slice A l.length c) l.length (l.map encStr)∧Below w.heap.size w w'
theorem qK7 (n:Stl.Nd)(names:List (List UInt8)):Stl.refsIn n names=Stl.insAll (Stl.reft names (Stl.items n)) []:=rfl
theorem qLp (p:Nat→Addr)(n:Stl.Nd)(vs:List Value)(nv:Value)(names:List (List UInt8))(hnm:names.length≤1000000)(w:World)(hE:Errs w p)(hn:NodeAt w n vs)(hs:Strs w nv names) :
  Calls Tryz.prog 120 #[.agg vs.toArray,nv] w (dL (Stl.refsIn n names) w):=by
 have HR:=Hh (qK7 n names);generalize Stl.refsIn n names=res at HR;have HE:=Hh hE;have HN:=Hh hn;have HS:=Hh hs;obtain⟨k,d,e,ks⟩:=n;obtain⟨A,c,rfl,_,_⟩:=hn.open;obtain⟨An,cn,rfl,_⟩:=id hs;clear hE hn hs;go_enter Tryz.func120,Tryz.ntmps120;go_wp2_with fail;have hbl:Below w.heap.size w (((w.alloc (.cells #[.string ⟨k.toArray⟩,.string ⟨d.toArray⟩,.bool e,.slice A ks.length c] 134)).alloc (.cells #[.slice An names.length cn] 22)).alloc (.cells #[.slice none 0 0] 22)):=xF w _ _ _;obtain⟨k1,k2,k3⟩:=dZ w _ (.cells #[.string ⟨k.toArray⟩,.string ⟨d.toArray⟩,.bool e,.slice A ks.length c] 134) (.cells #[.slice An names.length cn] 22) (.cells #[.slice none 0 0] 22) (zB _ _);have h0:RSt w (((w.alloc (.cells #[.string ⟨k.toArray⟩,.string ⟨d.toArray⟩,.bool e,.slice A ks.length c] 134)).alloc (.cells #[.slice An names.length cn] 22)).alloc (.cells #[.slice none 0 0] 22)) (.slice An names.length cn) (w.heap.size+1) (w.heap.size+1+1) names [] :=
  ⟨k2,⟨none,0,k3,zF1 _ _ _ _⟩,HS.o,by omega,by omega,hbl⟩
 have h:=pE p w HE.o (.mk k d e ks) _ HN.o 171 #[.pointer (some ⟨w.heap.size+1+1,0,none⟩),.pointer (some ⟨w.heap.size+1,0,none⟩)] qFd
  (fun l W=>RSt w W (.slice An names.length cn) (w.heap.size+1) (w.heap.size+1+1) names l) (fun pre W W' h hb=>h.later hb) (fun pre W h=>h.below)
  (fun ht pre x W vs hI hnx hr=>by
   obtain⟨i1,i2⟩:=Stl.items_well ht
   obtain⟨rest,hr⟩:=hr
   have hx:∀ y∈pre++[x],y.n.data.length≤2000:=fun y hy=>Stl.own_data (i2 y (by rw[← hr];simp at hy ⊢;rcases hy with hy | hy<;>simp[hy])).1
   have hlen:pre.length≤200:=by
    have:=congrArg List.length hr
    simp at this
    omega
   have:=Stl.reft_length names pre (fun y hy=>hx y (by simp[hy]))
   exact qLe x vs (Stl.told x.path) hI w hnx (hx x (by simp)) (by omega) hnm) _ h0
 have hlen:(Stl.reft names (Stl.items (.mk k d e ks))).length≤400000:=by
  unfold Stl.items;split
  ·rename_i ht
   obtain⟨i1,i2⟩:=Stl.items_well ht;have:=Stl.reft_length names _ (fun y hy=>Stl.own_data (i2 y hy).1);omega
  ·simp[Stl.reft]
 refine h.mono ?_;rintro ev w2 ⟨rfl,hI,_⟩;obtain⟨Ao,co,ho1,ho2⟩:=hI.o;have HB2:=Hh hI.below;have HO2:=Hh ho2;have hsc:=Stl.sort_compact (Stl.reft names (Stl.items (.mk k d e ks)));rw[← HR.o] at hsc;have HL:=Hh hlen;have c5:=cell_of_one ho1;have HO1:=Hh ho1;clear h h0 k1 k2 k3 hbl hI ho1 ho2 HR hlen;have HX:=Hh hsc;clear hsc;generalize Stl.reft names (Stl.items (.mk k d e ks))=acc at HO2 HX c5 HL HO1;go_wp2_with fail;refine(qCF Ao co w.heap.size acc (by have:=HL.o;omega) _ HO2.o).mono ?_;rintro ev w3 ⟨rfl,hr3,hb3⟩;have s3:=(hb3.block _ (zN1 HO1.o) (vI HO2.o HO1.o (by decide))).trans HO1.o;have HB3:=Hh (HB2.o.grown hb3 HB2.o.size (fun k hk=>(HO2.o.lt k hk).1));have hl3:(acc.mergeSort leB).length=acc.length:=List.length_mergeSort _;rw[← hl3] at hr3;have HR3:=Hh hr3;have HL3:=Hh hl3;clear hr3 hb3 c5;have c5:w3.cell? ⟨w.heap.size+1+1,0,none⟩=some (.slice Ao (acc.mergeSort leB).length co):=by
  rw[HL3.o];exact cell_of_one s3
 clear hl3 s3;have hl4:(acc.mergeSort leB).length≤100000000:=by rw[HL3.o];have:=HL.o;omega
 generalize acc.mergeSort leB=srt at HR3 HX c5 hl4;go_wp2_with fail;refine(qDc Ao co w.heap.size srt hl4 _ HR3.o).mono ?_;rintro ev w4 ⟨rfl,hr4,hb4⟩;have HB4:=Hh (HB3.o.grown hb4 HB3.o.size (fun k hk=>(HR3.o.lt k hk).1));rw[HX.o] at hr4 ⊢;have HR4:=Hh hr4;clear hr4 hb4 c5;go_wp2;go_ret;exact⟨Ao,co,rfl,HR4.o,HB4.o⟩
end Go.Proofs.YtbmkaekimccdgaaGreatDoor
namespace Go.Proofs.YtbmkaekimccdgaaGreatDoor
open Go.RowKit Go.Sort Stl
structure LibVars (W:World):Prop where
 max:∃ m,W.cell? ⟨14,0,none⟩=some (.int .i64 m)
 syn:∃ ev,W.cell? ⟨17,0,none⟩=some ev∧(ev=.nilIface∨∃ te pe,ev=.iface te pe)
 rng:∃ ev,W.cell? ⟨18,0,none⟩=some ev∧(ev=.nilIface∨∃ te pe,ev=.iface te pe)
 pow:Lib.TabIs Tryz.prog W "internal/strconv.uint64pow10" .u64 Lib.pow10Tab
theorem qCj {P:Program}{w w':World}{name:String}{cs:Array Value}(h:w.var? P name=some cs)(hb:Below w.heap.size w w'):w'.var? P name=some cs:=by
 unfold World.var? at h ⊢
 cases hg:P.globalNamed name with
 | none=>rw[hg] at h;cases h
 | some g =>
  rw[hg] at h;simp only[Option.bind_some] at h ⊢
  rcases zu g w.heap.size with h1 | h1
  ·rw[hb.block g h1];exact h
  ·rw[Array.getElem?_eq_none h1] at h
   cases h
theorem LibVars.later {w w':World}(h:LibVars w)(hb:Below w.heap.size w w'):LibVars w':=by
 obtain⟨⟨m,h1⟩,⟨e2,h2,h2'⟩,⟨e3,h3,h3'⟩,h4⟩:=h;exact⟨⟨m,(hb.cell (p:=⟨14,0,none⟩) (lt_of_cell h1)).trans h1⟩,⟨e2,(hb.cell (p:=⟨17,0,none⟩) (lt_of_cell h2)).trans h2,h2'⟩,⟨e3,(hb.cell (p:=⟨18,0,none⟩) (lt_of_cell h3)).trans h3,h3'⟩,qCj h4 hb⟩
def Env (w:World)(c:Nat→Col)(p:Nat→Addr):Prop :=
 ∃ W0,Errs W0 p∧LibVars W0∧Below W0.heap.size W0 w∧∀ b,b<W0.heap.size→c b=.ro
theorem Env.ext {w w2:World}{c c2:Nat→Col}{S:Col→Bool}{p:Nat→Addr}(h:Env w c p)(e:Ext w w2 c c2 S)(h1:S .ro=false):Env w2 c2 p:=by
 obtain⟨W0,h2,h3,h4,h5⟩:=h;exact⟨W0,h2,h3,h4.trans (e.below h4.size (fun b hb=>by rw[h5 b hb];exact h1)),fun b hb=>e.col (zt hb h4.size) (h5 b hb) h1⟩
theorem Env.below {w w2:World}{c:Nat→Col}{p:Nat→Addr}(h:Env w c p)(hb:Below w.heap.size w w2):Env w2 c p:=h.ext (Ext.of_below hb c S0) rfl
theorem Env.errs {w:World}{c:Nat→Col}{p:Nat→Addr}(h:Env w c p):Errs w p:=by
 obtain⟨W0,h2,_,h4,_⟩:=h;exact h2.later h4
theorem Env.vars {w:World}{c:Nat→Col}{p:Nat→Addr}(h:Env w c p):LibVars w:=by
 obtain⟨W0,_,h3,h4,_⟩:=h;exact h3.later h4
theorem Env.max {w:World}{c:Nat→Col}{p:Nat→Addr}(h:Env w c p):∃ m,w.cell? ⟨14,0,none⟩=some (.int .i64 m):=h.vars.max
def RoStrs (w:World)(c:Nat→Col)(A:Option Addr)(l:List (List UInt8)):Prop :=
 l≠[]→∃ b off,A=some ⟨b,off,none⟩∧b<w.heap.size∧c b=.ro∧∀ (j:Nat) x,l[j]?=some x→w.cell? ⟨b,off+j,none⟩=some (.string ⟨x.toArray⟩)
section
variable {w w2:World}{c c2:Nat→Col}{S:Col→Bool}
theorem RoStrs.ext {A:Option Addr}{l:List (List UInt8)}(h:RoStrs w c A l)(e:Ext w w2 c c2 S)(h1:S .ro=false):RoStrs w2 c2 A l:=fun hn=>by
 obtain⟨b,off,ha,hb,hc,hj⟩:=h hn;exact⟨b,off,ha,zt hb e.size,e.col hb hc h1,fun j x hx=>(zD1 (w:=w) (a:=⟨b,off+j,none⟩) (e.keep b hb (by rw[hc];exact h1)).1).trans (hj j x hx)⟩
theorem RoStrs.strs {A:Option Addr}{l:List (List UInt8)}(h:RoStrs w c A l)(cap:Nat):Strs w (.slice A l.length cap) l :=
 ⟨A,cap,rfl,fun hn=>by obtain⟨b,off,h1,h2,_,h3⟩:=h hn;exact⟨b,off,h1,h2,h3⟩⟩
def RoNode (w:World)(c:Nat→Col)(n:Nd)(vs:List Value):Prop:=NodeP (fun b=>c b=.ro) w n vs
theorem RoNode.ext {n:Nd}{vs:List Value}(h:RoNode w c n vs)(e:Ext w w2 c c2 S)(h1:S .ro=false):RoNode w2 c2 n vs :=
 NodeP.go e.size (fun b hb hc=>⟨(e.keep b hb (by rw[hc];exact h1)).1,e.col hb hc h1⟩) n vs h
def yC (l:List Ent)(nd:Nat→List Value)(fm:Nat→Nat)(k:Nat):Option Value:=(qN l k).map fun _=>.agg (nd k++[Value.map (some (fm k))]).toArray
def fileAt (f:List (List UInt8×Nat))(s:List UInt8):Option Value:=(jV f s).map fun n:Nat=>Value.int .i64 (n:Int)
structure DirsIn (w:World)(c:Nat→Col)(b:Nat)(d:Stl.Dirs)(bt bm:Nat)(nd:Nat→List Value)(fm:Nat→Nat):Prop where
 own:w.heap[b]?=some (.cells #[.pointer (some ⟨bt,0,none⟩),.map (some bm),.int .i64 d.next] 88 (0,0))
 col:c b=.dirs
 tab:TabAt w c bt d.t
 mcol:c bm=.dirsMap
 map:gS w bm d.l.length (yC d.l nd fm)
 node:∀ k e,qN d.l k=some e→RoNode w c e.n (nd k)
 fcol:∀ k e,qN d.l k=some e→c (fm k)=.files k
 files:∀ k e,qN d.l k=some e→vM w (fm k) e.f.length (fileAt e.f)
def DirsAt (w:World)(c:Nat→Col)(b:Nat)(d:Stl.Dirs):Prop:=∃ bt bm nd fm,DirsIn w c b d bt bm nd fm
def pW:Col→Bool
 | .dirs | .dirsMap | .files _=>true
 | x=>oC x
theorem DirsIn.ext {b:Nat}{d:Stl.Dirs}{bt bm:Nat}{nd:Nat→List Value}{fm:Nat→Nat}(h:DirsIn w c b d bt bm nd fm)(e:Ext w w2 c c2 S)(h0:S .ro=false)(h1:∀ x,pW x=true→S x=false):DirsIn w2 c2 b d bt bm nd fm :=
 ⟨(e.kept h.own h.col (h1 _ rfl)).1,(e.kept h.own h.col (h1 _ rfl)).2,h.tab.ext e h0 (fun x hx=>h1 x (by cases x<;>first | exact hx | (cases hx))),e.col h.map.lt h.mcol (h1 _ rfl),h.map.ext e h.mcol (h1 _ rfl),
  fun k x hk=>(h.node k x hk).ext e h0,fun k x hk=>e.col (h.files k x hk).lt (h.fcol k x hk) (h1 _ rfl),fun k x hk=>(h.files k x hk).ext e (h.fcol k x hk) (h1 _ rfl)⟩
theorem DirsAt.ext {b:Nat}{d:Stl.Dirs}(h:DirsAt w c b d)(e:Ext w w2 c c2 S)(h0:S .ro=false)(h1:∀ x,pW x=true→S x=false):DirsAt w2 c2 b d:=by
 obtain⟨bt,bm,nd,fm,h⟩:=h;exact⟨bt,bm,nd,fm,h.ext e h0 h1⟩
def PksCells (w:World)(c:Nat→Col):List Pk→List Value→Prop
 | [],vs=>vs=[]
 | p::r,vs=>∃ A cap rest,vs=[.string ⟨p.name.toArray⟩,.slice A p.refs.length cap,.int .i64 p.k]++rest∧p.refs.length≤cap∧RoStrs w c A p.refs∧PksCells w c r rest
theorem PksCells.ext (e:Ext w w2 c c2 S)(h0:S .ro=false):∀ {l:List Pk} {vs:List Value},PksCells w c l vs→PksCells w2 c2 l vs
 | [],_,h=>h
 | p::r,vs,h=>by
  obtain⟨A,cap,rest,h1,h2,h3,h4⟩:=h;exact⟨A,cap,rest,h1,h2,h3.ext e h0,PksCells.ext e h0 h4⟩
structure StoIn (w:World)(c:Nat→Col)(b:Nat)(s:Sto)(bd:Nat)(vl vr:Value)(tp:Nat)(cs:List Value):Prop where
 own:w.heap[b]?=some (.cells #[.pointer (some ⟨bd,0,none⟩),vl,vr,.pointer (some ⟨tp,0,none⟩)] 59 (0,0))
 col:c b=.sto
 dirs:DirsAt w c bd s.d
 packs:RowAt w c .stoL 150 3 vl s.l.length cs
 pcells:PksCells w c s.l cs
 roots:RowAt w c .roots 9 1 vr s.roots.length (s.roots.map encStr)
def StoAt (w:World)(c:Nat→Col)(b:Nat)(s:Sto)(tp:Nat):Prop:=∃ bd vl vr cs,StoIn w c b s bd vl vr tp cs
def oY:Col→Bool
 | .sto | .stoL | .roots=>true
 | x=>pW x
theorem StoIn.ext {b:Nat}{s:Sto}{bd:Nat}{vl vr:Value}{tp:Nat}{cs:List Value}(h:StoIn w c b s bd vl vr tp cs)(e:Ext w w2 c c2 S)(h0:S .ro=false)(h1:∀ x,oY x=true→S x=false):StoIn w2 c2 b s bd vl vr tp cs :=
 ⟨(e.kept h.own h.col (h1 _ rfl)).1,(e.kept h.own h.col (h1 _ rfl)).2,h.dirs.ext e h0 (fun x hx=>h1 x (by cases x<;>first | exact hx | (cases hx))),h.packs.ext e (h1 _ rfl),h.pcells.ext e h0,h.roots.ext e (h1 _ rfl)⟩
theorem StoAt.ext {b:Nat}{s:Sto}{tp:Nat}(h:StoAt w c b s tp)(e:Ext w w2 c c2 S)(h0:S .ro=false)(h1:∀ x,oY x=true→S x=false):StoAt w2 c2 b s tp:=by
 obtain⟨bd,vl,vr,cs,h⟩:=h;exact⟨bd,vl,vr,cs,h.ext e h0 h1⟩
end
end Go.Proofs.YtbmkaekimccdgaaGreatDoor
namespace Go.Proofs.YtbmkaekimccdgaaGreatDoor
open Go.ChangeShapes Go.ChangeMaps Go.WideShapes Go.ChangeAt Go.RowKit
def Fit (L:List Nat):Prop:=∀ x∈L,x≤reachBytes
theorem Fit.left {a b:List Nat}(h:Fit (a++b)):Fit a:=fun x hx=>h x (List.mem_append_left _ hx)
theorem Fit.right {a b:List Nat}(h:Fit (a++b)):Fit b:=fun x hx=>h x (List.mem_append_right _ hx)
theorem Fit.all {H:Type}{P:Program}{e:TypeId}:∀ {l:List (DataW H)},Fit (DataW.weightsAll P e l)→∀ d∈l,Fit (d.weights P e)
 | [],_,_,hd=>by cases hd
 | a::r,h,d,hd=>by
  unfold DataW.weightsAll at h
  rcases zY.1 hd with rfl | hd
  ·exact h.left
  ·exact Fit.all h.right d hd
section
variable {H:Type}{enc:TypeId×Value→H}{W:World}
noncomputable abbrev qOQ (enc:TypeId×Value→H)(W:World):=DataW.trod enc Tryz.prog W 0 (fun _=>true) true
theorem qOf {a:Addr}{n:Nat}{cs:List Value}(h:W.cells? 0 a (n+1)=some cs):a=⟨a.block,a.off,none⟩∧a.block<W.heap.size:=by
 obtain⟨_,hlen,hcell⟩:=World.cells?_some h;have g0:=hcell 0 (Nat.succ_pos _);obtain⟨c0,hc0⟩:∃ c0,cs[0]?=some c0:=by
  cases cs with
  | nil=>simp at hlen
  | cons c _=>exact⟨c,rfl⟩
 rw[hc0] at g0;refine⟨?_,World.cells?_block h (Nat.succ_pos _)⟩;obtain⟨b,off,spot⟩:=a;have hspot:spot=none:=by simpa[Addr.add] using World.cell?_spot g0
 subst hspot;rfl
theorem qMR:Tryz.prog.bytesOf 9=16:=by kernel_rfl
theorem qHE:Tryz.prog.cellsOf 9=1:=by kernel_rfl
theorem qMp (s:ByteArray):Value.string s=Value.string ⟨s.data.toList.toArray⟩:=by simp
def qOP (w:World)(A:Option Addr)(c:Nat)(l:List (List UInt8)):Prop:=Strs w (.slice A l.length c) l∧(A=none→l.length=0∧c=0)∧c≤140737488355328∧l.length≤c
theorem qEe {fuel:Nat}{cs:List Value}{d:DataW H}{ps:List MemPlace}(h:qOQ enc W fuel 22 cs=some (d,ps))(hfit:Fit (d.weights Tryz.prog 22)) :
  ∃ (A:Option Addr) (c:Nat) (l:List (List UInt8)),cs=[.slice A l.length c]∧qOP W A c l:=by
 rcases Deep.open_strs Tryz.underlying22 Tryz.underlying9 qHE h with ⟨rfl,_⟩ | ⟨a,len,cap,m,Sx,rfl,_,hl,_,hm,hx,hcell⟩
 ·exact⟨none,0,[],rfl,⟨none,0,rfl,fun h=>absurd rfl h⟩,fun _=>⟨rfl,rfl⟩,by omega,zo _⟩
 ·obtain rfl:m=cap:=by simpa using hm
  simp only[Prod.mk.injEq] at hx;obtain⟨rfl,rfl⟩:=hx;simp only[DataW.weights,Tryz.underlying22,zT,List.length_range,qMR] at hfit;have fw:(len+(m-len))*16≤reachBytes:=hfit _ (List.mem_cons_self ..);have hcap:m*16≤140737488351232:=by rw[show len+(m-len)=m by omega] at fw;exact fw
  refine⟨some a,m,(List.range len).map fun i=>(Sx i).data.toList,by simp,⟨some a,m,by simp,fun hn=>?_⟩,(fun h=>by cases h),by omega,by simpa using hl⟩;have hpos:0<len:=by
   rcases Nat.eq_zero_or_pos len with h | h
   ·subst h;exact absurd rfl hn
   ·exact h
  have h0:=(hcell 0 (by omega)).1;rw[show a.add 0=a by simp[Addr.add]] at h0;have hs:=World.cell?_spot h0;obtain⟨b,off,sp⟩:=a;simp only at hs;subst hs;refine⟨b,off,rfl,?_,fun j x hj=>?_⟩
  ·rcases zu b W.heap.size with h' | h'
   ·exact h'
   ·simp[World.cell?,Array.getElem?_eq_none h'] at h0
  ·have hjl:j<len:=by
    rcases zu j len with h' | h'
    ·exact h'
    ·rw[List.getElem?_eq_none (by simpa using h')] at hj;cases hj
   rw[zN,List.getElem?_range hjl] at hj;simp only[zA1,zB1] at hj;subst hj;have:=(hcell j (by omega)).1;rw[add_plain] at this;rw[this,qMp]
end
end Go.Proofs.YtbmkaekimccdgaaGreatDoor
