/- Lemmas. -/
import Derived.Lib.AtoiAll
import Derived.Lib.CountLaws
import Derived.Lib.CutLaws
import Derived.Lib.IndexMore
import Derived.Lib.ItoaNum
import Derived.Lib.Split
import Derived.Lib.SplitLaws
import Derived.Test.YtbmkaekimccdgaaGreatDoorBm05
set_option maxHeartbeats 16000000
set_option maxRecDepth 1000000
set_option linter.all false
namespace Stl
def keyOf (t:Tab)(n:Nat):Option (qB×Bool):=match t.read n with | .ok s=>(t.at_ n).map fun x=>(s,x.exec) | .error _=>none
def kR (t:Tab)(l:List Nat)(key:qB×Bool):Option Nat:=l.find? fun n=>keyOf t n==some key
theorem qAz (t:Tab)(l:List Nat)(n:Nat)(key:qB×Bool):kR t (l++[n]) key=match kR t l key with | some m=>some m | none=>if keyOf t n=some key then some n else none:=by
 unfold kR;rw[List.find?_append]
 cases l.find? fun n=>keyOf t n==some key with
 | some m=>rfl
 | none =>
  simp only[Option.none_or,List.find?_cons,List.find?_nil];by_cases h:keyOf t n=some key
  ·simp[h]
  ·rw[zL1 h,(show (keyOf t n==some key)=false by simpa using h)]
theorem qG2 {t:Tab}{n:Nat}{s:qB}{x:Ino}(h1:t.read n=.ok s)(h2:t.at_ n=some x):keyOf t n=some (s,x.exec):=by
 unfold keyOf;rw[h1,h2];rfl
theorem qLD {t:Tab}{n:Nat}{c:Nat}(h1:t.read n=.error c):keyOf t n=none:=by
 unfold keyOf;rw[h1]
theorem pF {t:Tab}{n:Nat}{key:qB×Bool}(h:keyOf t n=some key):∃ x,t.read n=.ok key.1∧t.at_ n=some x∧x.exec=key.2:=by
 unfold keyOf at h
 cases h1:t.read n with
 | error c=>rw[h1] at h;cases h
 | ok s =>
  rw[h1] at h
  cases h2:t.at_ n with
  | none=>rw[h2] at h;cases h
  | some x =>
   rw[h2] at h
   cases h
   exact⟨x,rfl,rfl,rfl⟩
theorem pP {t:Tab}{n:Nat}:n∈t.all↔(t.at_ n).isSome=true:=by
 unfold Tab.all;rw[zZ,List.mem_range];constructor
 ·exact fun h=>h.2
 ·intro h;obtain⟨x,hx⟩:=zy.1 h;exact⟨nH hx,h⟩
theorem qFK (t:Tab):t.all.Pairwise (·<·):=List.Pairwise.filter _ List.pairwise_lt_range
theorem mJ:∀ {l:List Nat} {p:Nat→Bool} {m:Nat},l.Pairwise (·<·)→(l.find? p=some m↔m∈l∧p m=true∧∀ k∈l,k<m→p k=false)
 | [],p,m,_=>by simp
 | a::r,p,m,h=>by
  rw[zi] at h;rw[List.find?_cons]
  cases ha:p a
  ·simp only;rw[mJ h.2];constructor
   ·rintro ⟨h1,h2,h3⟩;refine⟨by simp[h1],h2,fun k hk hkm=>?_⟩
    rcases zY.1 hk with rfl | hk
    ·exact ha
    ·exact h3 k hk hkm
   ·rintro ⟨h1,h2,h3⟩;refine⟨?_,h2,fun k hk=>h3 k (by simp[hk])⟩
    rcases zY.1 h1 with rfl | h1
    ·rw[ha] at h2;cases h2
    ·exact h1
  ·simp only[zB1];constructor
   ·rintro rfl;refine⟨by simp,ha,fun k hk hkm=>?_⟩
    rcases zY.1 hk with rfl | hk
    ·omega
    ·have:=h.1 k hk;omega
   ·rintro ⟨h1,h2,h3⟩
    rcases zY.1 h1 with rfl | h1
    ·rfl
    ·have:=h3 a (by simp) (h.1 m h1);rw[ha] at this
     cases this
theorem qDt {t:Tab}{n m:Nat}{key:qB×Bool}(hk:keyOf t n=some key):t.lesser n=some m↔m<n∧kR t t.all key=some m:=by
 obtain⟨x,h1,h2,h3⟩:=pF hk;have hp:∀ k,(match t.read k with | .error _=>false | .ok r=>r==key.1&&((t.at_ k).map (·.exec))==((t.at_ n).map (·.exec)))=(keyOf t k==some key):=by
  intro k;unfold keyOf
  cases h4:t.read k with
  | error c=>rfl
  | ok s =>
   simp only[h2,zA1,h3]
   cases h5:t.at_ k with
   | none =>
    simp[Tab.read,h5] at h4
   | some y =>
    simp only[zA1];rw[Bool.eq_iff_iff];simp only[zC,beq_iff_eq,zB1];obtain⟨k1,k2⟩:=key;simp
 have e:t.lesser n=(List.range n).find? fun k=>keyOf t k==some key:=by
  unfold Tab.lesser;rw[h1];simp only;congr 1
  funext k
  exact hp k
 rw[e,mJ List.pairwise_lt_range];unfold kR;rw[mJ (qFK t)];simp only[beq_iff_eq,List.mem_range,pP];constructor
 ·rintro ⟨a,b,c⟩;obtain⟨y,_,hy,_⟩:=pF b;exact⟨a,by rw[hy];rfl,b,fun k _ hkm=>c k (by omega) hkm⟩
 ·rintro ⟨a,b,c,d⟩;refine⟨a,c,fun k hk hkm=>?_⟩
  cases hq:keyOf t k with
  | none=>simp
  | some z =>
   obtain⟨y,_,hy,_⟩:=pF hq;have:=d k (by rw[hy];rfl) hkm;rw[hq] at this;simpa using this
theorem qId {t:Tab}{n:Nat}{key:qB×Bool}(hk:keyOf t n=some key):∃ m,kR t t.all key=some m∧m≤n:=by
 obtain⟨x,_,hx,_⟩:=pF hk;have hn:n∈t.all:=pP.2 (by rw[hx];rfl)
 cases h:kR t t.all key with
 | none =>
  have:=List.find?_eq_none.1 h n hn;exact absurd (by rw[hk];simp) this
 | some m =>
  refine⟨m,rfl,?_⟩;obtain⟨_,_,h3⟩:=(mJ (qFK t)).1 h
  rcases zu n m with h4 | h4
  ·have:=h3 n hn h4;rw[hk] at this;simp at this
  ·exact h4
theorem qGt {t:Tab}{n m:Nat}{key:qB×Bool}(hk:keyOf t n=some key)(hm:kR t t.all key=some m)(h:¬ m<n):t.lesser n=none:=by
 cases hl:t.lesser n with
 | none=>rfl
 | some k =>
  obtain⟨h1,h2⟩:=(qDt hk).1 hl;rw[hm] at h2
  cases h2
  exact absurd h1 h
theorem qH3 {t:Tab}{n:Nat}{c:Nat}(h:t.read n=.error c):t.lesser n=none:=by
 unfold Tab.lesser;rw[h]
end Stl
namespace Stl
open Go
theorem pG (c:UInt8):∀ l:List UInt8,(cutAt c l=none∧Lib.index l [c]=-1∧c∉l)∨∃ a b,cutAt c l=some (a,b)∧Lib.index l [c]=a.length∧l=a++c::b
 | []=>.inl ⟨rfl,rfl,by simp⟩
 | x::r=>by
  by_cases h:x=c
  ·subst h;refine .inr ⟨[],r,by simp[cutAt],?_,rfl⟩;rw[Lib.index_one];simp[Lib.indexByte]
  ·have hx:¬ (x==c)=true:=by simpa using h
   rcases pG c r with ⟨h1,h2,h3⟩ | ⟨a,b,h1,h2,h3⟩
   ·refine .inl ⟨by simp[cutAt,h,h1],?_,by simp[h3];exact fun e=>h e.symm⟩;rw[Lib.index_one] at h2 ⊢;unfold Lib.indexByte;rw[zL1 hx,zM1 (by rw[h2];rfl)]
   ·refine .inr ⟨x::a,b,by simp[cutAt,h,h1],?_,by rw[h3];rfl⟩;rw[Lib.index_one] at h2 ⊢;unfold Lib.indexByte;rw[zL1 hx,zL1 (by rw[h2];simp),h2];simp
theorem qNc (c:UInt8)(l:List UInt8):Lib.cut l [c]=match cutAt c l with | none=>(l,[],false) | some p=>(p.1,p.2,true):=by
 unfold Lib.cut
 rcases pG c l with ⟨h1,h2,_⟩ | ⟨a,b,h1,h2,h3⟩
 ·rw[h1,h2];rfl
 ·rw[h1,h2,zM1 (by omega)];simp[h3]
theorem xE (c:UInt8):∀ l:List UInt8,qG c l=match cutAt c l with | none=>[l] | some p=>p.1::qG c p.2
 | []=>rfl
 | x::r=>by
  by_cases h:x=c
  ·simp[qG,cutAt,h]
  ·have ih:=xE c r;simp only[qG,cutAt,zL1 h];rw[ih]
   cases cutAt c r<;>rfl
theorem qCB (c:UInt8):∀ (n:Nat) (l:List UInt8),l.length≤n→Lib.splitB ⟨#[c]⟩ 0 (Lib.countB ⟨l.toArray⟩ ⟨#[c]⟩) ⟨l.toArray⟩=(qG c l).map (fun x=>⟨x.toArray⟩)∧Lib.countB ⟨l.toArray⟩ ⟨#[c]⟩+1=(qG c l).length
 | n,l,hn=>by
  rcases pG c l with ⟨h1,h2,_⟩ | ⟨a,b,h1,h2,h3⟩
  ·have e:Lib.indexB ⟨l.toArray⟩ ⟨#[c]⟩=-1:=h2;rw[xE,h1,Lib.splitB_miss _ _ _ _ e,Lib.countB_miss _ _ e];exact⟨rfl,rfl⟩
  ·have e:Lib.indexB ⟨l.toArray⟩ ⟨#[c]⟩=a.length:=h2;have hl:l.length=a.length+1+b.length:=by rw[h3];simp;omega
   have ex:(ByteArray.mk l.toArray).extract (a.length+1) (ByteArray.mk l.toArray).size=⟨b.toArray⟩:=by
    apply ByteArray.ext;apply Array.toList_inj.1;rw[Lib.extract_to_end];simp[h3]
   have ex0:(ByteArray.mk l.toArray).extract 0 (a.length+0)=⟨a.toArray⟩:=by
    apply ByteArray.ext;apply Array.toList_inj.1;rw[Lib.extract_data];simp[h3]
   have hc:=Lib.countB_hit ⟨l.toArray⟩ ⟨#[c]⟩ a.length (zo 1) e;have hs:(ByteArray.mk #[c]).size=1:=rfl;rw[hs,ex] at hc
   match n,hn with
   | 0,hn=>omega
   | n+1,hn =>
    obtain⟨i1,i2⟩:=qCB c n b (by omega);rw[hc,Nat.add_comm 1,Lib.splitB_hit _ _ _ _ _ e,hs,ex,ex0,i1,xE c l,h1];exact⟨rfl,by simp;omega⟩
theorem qAh (c:UInt8)(l:List UInt8):∀ x∈qG c l,x.length≤l.length:=by
 induction l with
 | nil=>simp[qG]
 | cons a r ih =>
  intro x hx;simp only[qG] at hx;split at hx
  ·rcases zY.1 hx with rfl | hx
   ·simp
   ·have:=ih x hx;simp;omega
  ·cases hs:qG c r with
   | nil =>
    rw[hs] at hx;simp at hx;subst hx;simp
   | cons y t =>
    rw[hs] at hx ih
    rcases zY.1 hx with rfl | hx
    ·have:=ih y (by simp);simp;omega
    ·have:=ih x (by simp[hx]);simp;omega
theorem kY (c:UInt8)(l:List UInt8):(qG c l).length≤l.length+1:=by
 induction l with
 | nil=>simp[qG]
 | cons a r ih =>
  simp only[qG];split
  ·simp;omega
  ·cases hs:qG c r with
   | nil=>simp
   | cons y t=>rw[hs] at ih;simp at ih ⊢;omega
end Stl
namespace Stl
def pD (l:List qB):qB:=l.flatMap fun nm=>47::nm
theorem qJs {ks:List (qB×Nd)}(hr:(ks.map (·.1)).Pairwise (·<·)){nm:qB}{x:Nd}(h:(nm,x)∈ks):hZ ks nm=some x:=by
 induction ks with
 | nil=>cases h
 | cons q r ih =>
  obtain⟨a,y⟩:=q;simp only[zV,zi] at hr;unfold hZ
  rcases zY.1 h with e | e
  ·cases e
   rw[zM1 rfl]
  ·have:a<nm:=hr.1 nm (zb.2 ⟨_,e,rfl⟩);rw[zL1 (fun e=>by subst e;exact List.lt_irrefl _ this)];exact ih hr.2 e
def qNC (n:Nd)(path:qB)(deep:Nat)(x:It):Prop:=∃ nms:List qB,x.path=path++pD nms∧jJ n nms=some x.n∧nms.all isName=true∧deep+nms.length≤8
mutual
theorem qKb:∀ (n:Nd) (path:qB) (deep c:Nat),(chk ownErr n deep c).1=0→∀ x∈flat n path deep,qNC n path deep x
 | .mk k d e ks,path,deep,c,h=>by
  rw[chk] at h;split at h
  ·cases h
  ·rename_i h1
   split at h
   ·cases h
   ·split at h
    ·rename_i h3
     have hks:=qA3 h3;simp only[flat,zY];rintro x (rfl | hx)
     ·exact⟨[],by simp[pD],rfl,rfl,by simp only[List.length_nil];omega⟩
     ·obtain⟨nm,y,hm,nms,q1,q2,q3,q4⟩:=qG0 ks path (deep+1) (c+1) h x hx;refine⟨nm::nms,by rw[q1];simp[pD],?_,?_,by simp only[zQ];omega⟩
      ·unfold jJ;have hk2:hZ (Nd.mk k d e ks).kids nm=some y:=qJs (ks:=ks) hks.2 hm;rw[hk2];exact q2
      ·rw[List.all_cons,zC];exact⟨hks.1 _ hm,q3⟩
    ·rename_i h3
     exact absurd h h3
theorem qG0:∀ (l:List (qB×Nd)) (path:qB) (deep c:Nat),(chkL ownErr l deep c).1=0→∀ x∈flatL l path deep,∃ nm y,(nm,y)∈l∧∃ nms:List qB,x.path=path++47::(nm++pD nms)∧jJ y nms=some x.n∧nms.all isName=true∧deep+nms.length≤8
 | [],path,deep,c,_,x,hx=>by simp[flatL] at hx
 | (nm,y)::r,path,deep,c,h,x,hx=>by
  rw[chkL] at h;split at h
  ·rename_i h1
   simp only[flatL,zX] at hx
   rcases hx with hx | hx
   ·obtain⟨nms,q1,q2,q3,q4⟩:=qKb y (path++47::nm) deep c h1 x hx;exact⟨nm,y,by simp,nms,by rw[q1];simp,q2,q3,q4⟩
   ·obtain⟨nm2,z,hm,q⟩:=qG0 r path deep _ h x hx;exact⟨nm2,z,by simp[hm],q⟩
  ·rename_i h1
   exact absurd h h1
end
theorem qBo:∀ {s:qB},47∉s→qG 47 s=[s]
 | [],_=>rfl
 | c::r,h=>by
  have h1:c≠47:=fun e=>h (by simp[e])
  have h2:=qBo (s:=r) (fun e=>h (by simp[e]));unfold qG;rw[zL1 h1,h2]
theorem qCe:∀ {s:qB} (r:qB),47∉s→qG 47 (s++47::r)=s::qG 47 r
 | [],r,_=>by simp[qG]
 | c::s,r,h=>by
  have h1:c≠47:=fun e=>h (by simp[e])
  have h2:=qCe (s:=s) r (fun e=>h (by simp[e]));rw[zE]
  conv=>lhs;unfold qG
  rw[zL1 h1,h2]
theorem qBP:∀ {l:List qB} {s:qB},47∉s→(∀ nm∈l,47∉nm)→qG 47 (s++pD l)=s::l
 | [],s,hs,_=>by simp[pD,qBo hs]
 | nm::l,s,hs,h=>by
  have e:s++pD (nm::l)=s++47::(nm++pD l):=by simp[pD]
  rw[e,qCe _ hs,qBP (h nm (by simp)) (fun a ha=>h a (by simp[ha]))]
theorem qJu {l:List qB}(h:l.all isName=true)(h8:l.length≤8):qQ (told (pD l))=some l:=by
 unfold told
 cases l with
 | nil=>rfl
 | cons nm r =>
  have hne:pD (nm::r)≠[]:=by simp[pD]
  rw[zL1 hne];have hn:nm≠[]:=by
   rintro rfl;simp only[List.all_cons,zC] at h;exact absurd h.1 (by decide)
  unfold qQ;have h1:pD (nm::r)≠[47]:=by
   intro e;apply hn;simp only[pD,List.flatMap_cons,zE,zD,List.append_eq_nil_iff,true_and] at e;exact e.1
  rw[zL1 h1];have h2:=qBP (l:=nm::r) (s:=[]) (by simp) (fun a ha=>qAn (List.all_eq_true.1 h a ha));rw[zh] at h2;rw[h2];simp only;rw[zL1];rintro (h3 | h3 | h3)
  ·cases h3
  ·omega
  ·rw[h] at h3
   cases h3
theorem qHe {n:Nd}(h:treeErr n=0){x:It}(hx:x∈items n):getPath n (told x.path)=.ok x.n:=by
 unfold items at hx;rw[zM1 h] at hx;obtain⟨nms,q1,q2,q3,q4⟩:=qKb n [] 0 0 h x hx;rw[zh] at q1;unfold getPath;rw[zL1 (by simp[h]),q1,qJu q3 (by omega)];simp only;rw[q2]
theorem qBQ:∀ (a:List It) (x:It) (t:Tab),makeAll t (a++[x])=match makeAll t a with
  | .error e=>.error e
  | .ok (l,t1)=>match t1.make x.n.data x.n.exec with
   | .error e=>.error e
   | .ok (n,t2)=>.ok (l++[(told x.path,n)],t2)
 | [],x,t=>by
  simp only[zh,makeAll]
  cases t.make x.n.data x.n.exec with
  | error e=>rfl
  | ok p=>rfl
 | y::a,x,t=>by
  rw[zE]
  conv=>lhs;unfold makeAll
  conv=>rhs;unfold makeAll
  cases t.make y.n.data y.n.exec with
  | error e=>rfl
  | ok p =>
   simp only;rw[qBQ a x p.2]
   cases makeAll p.2 a with
   | error e=>rfl
   | ok q =>
    simp only
    cases q.2.make x.n.data x.n.exec with
    | error e=>rfl
    | ok z=>rfl
theorem qDd {t t':Tab}{a b:List It}{f:List (qB×Nat)}(h:makeAll t (a++b)=.ok (f,t')):∃ g t1,makeAll t a=.ok (g,t1):=by
 induction a generalizing t f with
 | nil=>exact⟨[],t,rfl⟩
 | cons x a ih =>
  rw[zE] at h;unfold makeAll at h ⊢
  cases hm:t.make x.n.data x.n.exec with
  | error e=>rw[hm] at h;cases h
  | ok p =>
   obtain⟨n,t1⟩:=p;rw[hm] at h;simp only at h ⊢
   cases h2:makeAll t1 (a++b) with
   | error e=>rw[h2] at h;cases h
   | ok q =>
    obtain⟨l,t2⟩:=q;rw[h2] at h
    cases h
    obtain⟨g,t3,h3⟩:=ih h2;rw[h3];exact⟨_,_,rfl⟩
theorem qKt {t t':Tab}{data:qB}{exec:Bool}{n:Nat}(h:t.make data exec=.ok (n,t')):t'.disk.length=t.disk.length∧t'.l.length≤t.l.length+1:=by
 unfold Tab.make at h;split at h
 ·cases h
 ·split at h
  ·cases h
  ·cases h
   refine⟨jX _ _ _,?_⟩;simp only[putAt];split<;>simp
theorem kD:∀ (a:List It) (t t':Tab) (f:List (qB×Nat)),makeAll t a=.ok (f,t')→t'.disk.length=t.disk.length∧t'.l.length≤t.l.length+a.length∧f.map (·.1)=a.map fun x=>told x.path
 | [],t,t',f,h=>by cases h;simp
 | x::a,t,t',f,h=>by
  unfold makeAll at h
  cases hm:t.make x.n.data x.n.exec with
  | error e=>rw[hm] at h;cases h
  | ok p =>
   obtain⟨n,t1⟩:=p;rw[hm] at h;simp only at h
   cases h2:makeAll t1 a with
   | error e=>rw[h2] at h;cases h
   | ok q =>
    obtain⟨l,t2⟩:=q;rw[h2] at h
    cases h
    have a1:=qKt hm;have a2:=kD a t1 _ _ h2;refine⟨by omega,by simp only[zQ];omega,by simp[a2.2.2]⟩
theorem qBp (n:Nd):(qE n).length≤200:=zq (zS _ _) (qFc n)
theorem qAd (n:Nd):(qE n).map (fun x=>told x.path)=qR n:=rfl
theorem qKF {d:Dirs}(hd:vC d){n:Nd}(h0:treeErr n=0)(h1:wX n≤d.t.free.length){i:Nat}(hi:i<(qE n).length){f:List (qB×Nat)}{t:Tab}(hm:makeAll d.t ((qE n).take i)=.ok (f,t)) :
  ∃ m t2,t.make (qE n)[i].n.data (qE n)[i].n.exec=.ok (m,t2)∧makeAll d.t ((qE n).take (i+1))=.ok (f++[(told (qE n)[i].path,m)],t2):=by
 have hall:∀ x∈qE n,x.n.data.length≤2000:=by
  intro x hx;have hx2:=(zZ.1 hx).1;unfold items at hx2;rw[zM1 h0] at hx2;exact own_data ((items_well h0).2 x hx2).1
 obtain⟨f2,t3,h2,_⟩:=qAq (qE n) d.t hd.tab hall h1;have e:qE n=(qE n).take (i+1)++(qE n).drop (i+1):=(List.take_append_drop _ _).symm;rw[e] at h2;obtain⟨g,t4,h3⟩:=qDd h2;have h4:=h3;rw[zn hi,qBQ,hm] at h3;simp only at h3
 cases h5:t.make (qE n)[i].n.data (qE n)[i].n.exec with
 | error c=>rw[h5] at h3;cases h3
 | ok p =>
  obtain⟨m,t5⟩:=p;rw[h5] at h3
  cases h3
  exact⟨_,_,rfl,h4⟩
theorem qKZ {n:Nd}(h0:treeErr n=0){i:Nat}(hi:i<(qE n).length):getPath n (told (qE n)[i].path)=.ok (qE n)[i].n∧((qE n)[i].n.data.length≤2000∧(qE n)[i].path.length≤104):=by
 have hx:=zO hi;have hx2:=(zZ.1 hx).1;refine⟨qHe h0 hx2,?_⟩;unfold items at hx2;rw[zM1 h0] at hx2;have:=(items_well h0).2 _ hx2;exact⟨own_data this.1,this.2⟩
theorem qDT:∀ {f:List (qB×Nat)} {s:qB} {n:Nat},s∉f.map (·.1)→∀ x,jV (f++[(s,n)]) x=if x=s then some n else jV f x
 | [],s,n,_,x=>by
  by_cases h:s=x
  ·subst h;simp[jV]
  ·simp[jV,h,Ne.symm h]
 | (a,m)::f,s,n,h,x=>by
  have h1:s≠a:=fun e=>h (by simp[e])
  have h2:s∉f.map (·.1):=fun e=>h (by simp at e ⊢;exact .inr e)
  rw[zE,kE,kE,qDT h2];by_cases ha:a=x
  ·subst ha;rw[zM1 rfl,zM1 rfl,zL1 (Ne.symm h1)]
  ·rw[zL1 ha,zL1 ha]
theorem qMX {n:Nd}{i:Nat}(hi:i<(qE n).length){f:List (qB×Nat)}{t t':Tab}(hm:makeAll t ((qE n).take i)=.ok (f,t')):told (qE n)[i].path∉f.map (·.1):=by
 rw[(kD _ _ _ _ hm).2.2];intro h;have hn:=xI n;rw[← qAd] at hn;have e:(qE n).take (i+1)=(qE n).take i++[(qE n)[i]]:=zn hi;have h2:(((qE n).take (i+1)).map fun x=>told x.path).Nodup:=by
  exact hn.sublist ((List.take_sublist _ _).map _)
 rw[e,zU,List.nodup_append] at h2;exact h2.2.2 _ h _ (by simp) rfl
structure Sizes (d d':Dirs)(k:Nat):Prop where
 disk:d'.t.disk.length=d.t.disk.length
 inos:d'.t.l.length≤d.t.l.length+200*k
 next:d'.next≤d.next+k
 ents:d'.l.length≤d.l.length+k
theorem Sizes.refl (d:Dirs)(k:Nat):Sizes d d k:=⟨rfl,by omega,by omega,by omega⟩
theorem Sizes.trans {d d1 d2:Dirs}{k:Nat}(h:Sizes d d1 0)(h2:Sizes d1 d2 k):Sizes d d2 k :=
 ⟨h2.disk.trans h.disk,by have:=h.inos;have:=h2.inos;omega,by have:=h.next;have:=h2.next;omega,by have:=h.ents;have:=h2.ents;omega⟩
theorem qLw (t:Tab)(n:Nat):(unl t n).disk=t.disk∧(unl t n).l.length=t.l.length:=by
 cases hx:t.at_ n with
 | none=>rw[gG hx];exact⟨rfl,rfl⟩
 | some x=>rw[wB hx];simp
theorem qAP:∀ (a:List (qB×Nat)) (t:Tab),(qK t a).disk=t.disk
 | [],t=>rfl
 | (s,n)::a,t=>by rw[jF,qAP a,(qLw t n).1]
theorem qFe {d d':Dirs}{k:Nat}(h:d.drop k=.ok d'):Sizes d d' 0:=by
 unfold Dirs.drop at h
 cases he:qN d.l k with
 | none=>rw[he] at h;cases h
 | some e =>
  rw[he] at h
  cases h
  exact⟨by rw[qAP],by rw[qAS];omega,by simp,by simp[zS]⟩
theorem xJ:∀ (dead:List qB) (d:Dirs) (l:List Pk),Sizes d (jG d l dead).1 0
 | [],d,l=>Sizes.refl d 0
 | nm::r,d,l=>by
  unfold jG
  cases hf:l.find? fun p=>p.name==nm with
  | none=>exact xJ r d l
  | some p =>
   simp only
   cases hd:d.drop p.k with
   | error c=>exact xJ r d _
   | ok d1=>exact(qFe hd).trans (xJ r d1 _)
theorem qKG {t t':Tab}{n:Nat}(h:t.link n=.ok t'):t'.disk=t.disk∧t'.l.length=t.l.length:=by
 unfold Tab.link at h
 cases hx:t.at_ n with
 | none=>rw[hx] at h;cases h
 | some x=>rw[hx] at h;cases h;simp
theorem qCL {t t':Tab}{n:Nat}(h:t.unlink n=.ok t'):t'.disk=t.disk∧t'.l.length=t.l.length:=by
 unfold Tab.unlink at h
 cases hx:t.at_ n with
 | none=>rw[hx] at h;cases h
 | some x=>rw[hx] at h;cases h;simp
theorem qFN {d d':Dirs}(h:d.step=some d'):Sizes d d' 0:=by
 unfold Dirs.step at h
 cases hs:stepOf d.t d.l with
 | none=>rw[hs] at h;cases h
 | some q =>
  obtain⟨k,s,was,n⟩:=q;rw[hs] at h;simp only at h
  cases h
  cases hl:d.t.link n with
  | error c =>
   cases hu:d.t.unlink was with
   | error c2=>simp only[hu];exact⟨rfl,by simp,by simp,by simp⟩
   | ok t2 =>
    have:=qCL hu;simp only[hu];exact⟨by rw[this.1],by rw[this.2];omega,by simp,by simp⟩
  | ok t1 =>
   have h1:=qKG hl
   cases hu:t1.unlink was with
   | error c2=>simp only[hu];exact⟨by rw[h1.1],by rw[h1.2];omega,by simp,by simp⟩
   | ok t2 =>
    have:=qCL hu;simp only[hu];exact⟨by rw[this.1,h1.1],by rw[this.2,h1.2];omega,by simp,by simp⟩
theorem qDo:∀ (f:Nat) (d:Dirs),Sizes d (Dirs.merge f d).2 0
 | 0,d=>Sizes.refl d 0
 | f+1,d=>by
  unfold Dirs.merge
  cases hs:d.step with
  | none=>exact Sizes.refl d 0
  | some d1=>exact(qFN hs).trans (qDo f d1)
theorem qM2 {d d':Dirs}{n:Nd}{k:Nat}(h:d.put n=.ok (k,d')):Sizes d d' 1:=by
 unfold Dirs.put at h;split at h
 ·cases h
 ·split at h
  ·cases h
  ·cases hm:makeAll d.t (qE n) with
   | error c=>rw[hm] at h;cases h
   | ok q =>
    obtain⟨f,t⟩:=q;rw[hm] at h
    cases h
    have a:=kD _ _ _ _ hm;have b:=qBp n;exact⟨a.1,by simp only;omega,by simp,by simp⟩
theorem qLR {s s':Sto}{rest:qB}(h:s.add rest=.ok s'):Sizes s.d s'.d 1:=by
 unfold Sto.add at h;split at h
 ·cases h
 ·split at h
  ·cases h
  ·split at h
   ·cases h
   ·split at h
    ·cases h
    ·split at h
     ·cases h
     ·simp only at h;split at h
      ·cases h
      ·split at h
       ·cases h
       ·rename_i k d hp
        cases h
        exact qM2 hp
theorem qKz {t t':Tab}{n:Nat}{data:qB}(h:t.mend n data=.ok t'):t'.disk.length=t.disk.length∧t'.l=t.l:=by
 unfold Tab.mend at h
 cases hx:t.at_ n with
 | none=>rw[hx] at h;cases h
 | some x =>
  rw[hx] at h;simp only at h;split at h
  ·cases h
  ·cases hr:t.read n with
   | ok b=>rw[hr] at h;cases h
   | error c=>rw[hr] at h;cases h;exact⟨jX _ _ _,rfl⟩
theorem qCX {s s':Sto}{line a:qB}(h:s.change line=some (.ok (a,s'))):Sizes s.d s'.d 1:=by
 have up:∀ {d d':Dirs},Sizes d d' 0→Sizes d d' 1:=fun h=>⟨h.disk,by have:=h.inos;omega,by have:=h.next;omega,by have:=h.ents;omega⟩
 unfold Sto.change at h;split at h
 ·cases h;exact up (xJ _ _ _)
 ·split at h
  ·cases h;exact up (qDo _ _)
  ·cases hcut:cutAt 32 line with
   | none=>rw[hcut] at h;cases h
   | some q =>
    obtain⟨word,rest⟩:=q;rw[hcut] at h;simp only at h;split at h
    ·cases ha:s.add rest with
     | error e=>rw[ha] at h;cases h
     | ok x=>rw[ha] at h;cases h;exact qLR ha
    ·split at h
     ·injection h with h
      split at h
      ·cases h
      ·split at h
       ·cases h
       ·cases h;exact Sizes.refl _ _
     ·split at h
      ·injection h with h
       split at h
       ·cases h;exact Sizes.refl _ _
       ·cases h
      ·split at h
       ·injection h with h
        split at h
        ·cases h
        ·split at h
         ·rename_i k bit _ _
          cases hr:s.d.t.rot k bit with
          | error e=>rw[hr] at h;cases h
          | ok t =>
           rw[hr] at h
           cases h
           unfold Tab.rot at hr;split at hr
           ·cases hr
           ·cases hr
            exact⟨by simp,by simp,by simp,by simp⟩
         ·cases h
       ·split at h
        ·injection h with h
         split at h
         ·cases h
         ·split at h
          ·rename_i n _
           cases hm:s.d.t.mend n _ with
           | error e=>rw[hm] at h;cases h
           | ok t =>
            rw[hm] at h
            cases h
            have:=qKz hm;exact⟨this.1,by simp only;rw[this.2];omega,by simp,by simp⟩
          ·cases h
        ·cases h
end Stl
namespace Stl
open Go
theorem qNa:∀ n:Nat,n<10→(48:UInt8)+n.toUInt8=UInt8.ofNat (48+n):=by decide
theorem qNd:∀ n:Nat,n<10→isDigit (UInt8.ofNat (48+n))=true:=by decide
theorem qG5:∀ n:Nat,n<10→(UInt8.ofNat (48+n)).toNat-48=n:=by decide
theorem qL0:∀ n:Nat,n<10→n≠0→UInt8.ofNat (48+n)≠48:=by decide
theorem qI8:∀ (f n:Nat),n<f→oV f n=Lib.decDigits n
 | 0,n,h=>by omega
 | f+1,n,h=>by
  rw[Lib.decDigits];unfold oV;by_cases h1:n<10
  ·rw[zM1 h1,dif_pos h1,qNa n h1]
  ·rw[zL1 h1,dif_neg h1,qI8 f (n/10) (by omega),qNa _ (Nat.mod_lt _ (by decide))]
theorem qHV (n:Nat):dec n=Lib.decDigits n:=qI8 _ _ (by omega)
theorem pA (n:Nat):Lib.itoa (n:Int)=dec n:=by
 rw[qHV];unfold Lib.itoa;rw[zL1 (by omega)];rfl
theorem dF (c:UInt8):isDigit c=true↔48≤c.toNat∧c.toNat≤57:=by
 unfold isDigit;rw[zC,decide_eq_true_eq,decide_eq_true_eq,UInt8.le_iff_toNat_le,UInt8.le_iff_toNat_le];rfl
def kT (a:Nat)(s:qB):Nat:=s.foldl (fun n c=>10*n+(c.toNat-48)) a
theorem qBB:∀ (s:qB) (a:Nat),s.all isDigit=true→kT a s<(a+1)*10 ^ s.length
 | [],a,_=>by simp[kT]
 | c::r,a,h=>by
  simp only[List.all_cons,zC] at h;have ih:=qBB r (10*a+(c.toNat-48)) h.2;have hc:=(dF c).1 h.1;refine zt ih ?_;rw[zQ,Nat.pow_succ,Nat.mul_comm (10 ^ r.length) 10,← Nat.mul_assoc];exact Nat.mul_le_mul_right _ (by omega)
theorem qCd:∀ (s:qB) (a:Nat),s.all isDigit=true→(a+1)*10 ^ s.length≤1844674407370955162→Lib.parseUint10 a s=.ok (kT a s)
 | [],a,_,_=>rfl
 | c::r,a,h,hl=>by
  simp only[List.all_cons,zC] at h;have hc:=(dF c).1 h.1;have h1:1≤10 ^ r.length:=Nat.one_le_pow _ _ (by decide);rw[zQ,Nat.pow_succ,Nat.mul_comm (10 ^ r.length) 10,← Nat.mul_assoc] at hl;have h2:(a+1)*10≤1844674407370955162:=zq (Nat.le_mul_of_pos_right _ h1) hl;have ih:=qCd r (10*a+(c.toNat-48)) h.2 (zq (Nat.mul_le_mul_right _ (by omega)) hl);unfold Lib.parseUint10;rw[zM1 hc,zL1 (by omega),zL1 (by omega),show a*10+(c.toNat-48)=10*a+(c.toNat-48) by omega,ih];rfl
theorem qIU:∀ n:Nat,(Lib.decDigits n).all isDigit=true:=by
 intro n
 induction n using Nat.strongRecOn with
 | _ n ih =>
  rw[Lib.decDigits];split
  ·rename_i h
   simp only[List.all_cons,List.all_nil,qNd n h,Bool.and_self]
  ·rw[List.all_append,ih (n/10) (by omega)];simp only[List.all_cons,List.all_nil,qNd (n%10) (Nat.mod_lt _ (by decide)),Bool.and_self]
theorem qAO (a:Nat)(s r:qB):kT a (s++r)=kT (kT a s) r:=by simp[kT]
theorem qLb (n:Nat):wD (Lib.decDigits n)=n:=by
 show kT 0 (Lib.decDigits n)=n
 induction n using Nat.strongRecOn with
 | _ n ih =>
  rw[Lib.decDigits];split
  ·rename_i h
   simp only[kT,List.foldl_cons,List.foldl_nil,qG5 n h];omega
  ·rename_i h
   rw[qAO,ih (n/10) (by omega)];simp only[kT,List.foldl_cons,List.foldl_nil,qG5 _ (Nat.mod_lt n (show 0<10 by decide))];omega
theorem qNQ:∀ (s:qB),s.all isDigit=true→s≠[]→¬ (1<s.length∧s.head?=some 48)→Lib.decDigits (wD s)=s:=by
 have key:∀ (n:Nat) (s:qB),s.length=n→s.all isDigit=true→s≠[]→¬ (1<s.length∧s.head?=some 48)→Lib.decDigits (wD s)=s:=by
  intro n
  induction n with
  | zero=>intro s h _ hn;exact absurd (zR.1 h) hn
  | succ n ih =>
   intro s hl hd hn h0;obtain⟨t,c,rfl⟩:∃ t c,s=t++[c]:=⟨s.dropLast,s.getLast hn,(List.dropLast_concat_getLast hn).symm⟩;rw[List.all_append,zC] at hd;have hc:=(dF c).1 (by simpa using hd.2);have hv:wD (t++[c])=10*wD t+(c.toNat-48):=by
    show kT 0 (t++[c])=_;rw[qAO];rfl
   have hcb:UInt8.ofNat (48+(c.toNat-48))=c:=by
    rw[show 48+(c.toNat-48)=c.toNat by omega];simp
   rw[hv];by_cases ht:t=[]
   ·subst ht;rw[show wD []=0 from rfl,Nat.mul_zero,zv,Lib.decDigits,dif_pos (by omega),hcb];rfl
   ·have h0':t.head?≠some 48:=by
     intro h;apply h0;refine⟨?_,?_⟩
     ·have:=List.length_pos_iff.2 ht;simp;omega
     ·cases t with
      | nil=>exact absurd rfl ht
      | cons x r=>simpa using h
    have iht:=ih t (by simpa using hl) hd.1 ht (fun h=>h0' h.2);have hpos:wD t≠0:=by
     intro h;rw[h] at iht;rw[Lib.decDigits,dif_pos (by omega)] at iht;rw[← iht] at h0';exact h0' rfl
    rw[Lib.decDigits,dif_neg (by omega),show (10*wD t+(c.toNat-48))/10=wD t by omega,show (10*wD t+(c.toNat-48))%10=c.toNat-48 by omega,hcb,iht]
 intro s;exact key s.length s rfl
theorem wV (s:qB)(most:Nat)(hm:most≤9)(n:Nat) :
  qI s most=some n↔Lib.atoiAll s=.ok (n:Int)∧s.length≤most∧Lib.itoa (n:Int)=s:=by
 unfold qI;by_cases h:s.length<1∨most<s.length∨(1<s.length∧s.head?=some 48)∨s.all isDigit=false
 ·rw[zM1 h];refine⟨fun h=>(by cases h),?_⟩;rintro ⟨h1,h2,h4⟩;exfalso;rw[pA,qHV] at h4
  rcases h with h | h | h | h
  ·have:s=[]:=zR.1 (by omega);subst this;simp[Lib.atoiAll] at h1
  ·omega
  ·subst h4;by_cases hn:n<10
   ·rw[Lib.decDigits,dif_pos hn] at h;simp at h
   ·have hp:∀ m,m≠0→(Lib.decDigits m).head?≠some 48:=by
     intro m
     induction m using Nat.strongRecOn with
     | _ m ih =>
      intro hm;rw[Lib.decDigits];split
      ·rename_i h5
       have:=qL0 m h5 hm;simpa using this
      ·rename_i h5
       have:=ih (m/10) (by omega) (by omega);have hne:Lib.decDigits (m/10)≠[]:=by
        intro he;have:=qLb (m/10);rw[he] at this;simp[wD] at this;omega
       cases hd:Lib.decDigits (m/10) with
       | nil=>exact absurd hd hne
       | cons x r=>rw[hd] at this;simpa using this
    exact hp n (by omega) h.2
  ·rw[← h4,qIU] at h
   cases h
 ·rw[zL1 h];constructor
  case mpr =>
   rintro ⟨_,_,h4⟩;rw[pA,qHV] at h4;rw[← h4,qLb]
  simp only[not_or] at h;obtain⟨h1,h2,h3,h4⟩:=h;have hd:s.all isDigit=true:=by simpa using h4
  have hn:s≠[]:=by rintro rfl;simp at h1
  intro e
  cases e
  refine⟨?_,by omega,by rw[pA,qHV];exact qNQ s hd hn h3⟩
  cases s with
  | nil=>exact absurd rfl hn
  | cons c r =>
   have hc:=(dF c).1 (by simp only[List.all_cons,zC] at hd;exact hd.1);have hlt:=qBB (c::r) 0 hd;have hpw:10 ^ (c::r).length≤10 ^ 9:=Nat.pow_le_pow_right (by decide) (by omega);unfold Lib.atoiAll;simp only;rw[zL1 (by omega)];unfold Lib.parseMag;rw[zL1 (by simp),qCd (c::r) 0 hd (by omega)];have e:kT 0 (c::r)=wD (c::r):=rfl;rw[e] at hlt ⊢;simp only;rw[zL1 (by omega),zL1 (by omega),zL1 (by omega)]
theorem qA2 {s:qB}{most n:Nat}(_:most≤9)(h:qI s most=some n):n<10 ^ most∧s.length≤most∧1≤s.length:=by
 unfold qI at h;split at h
 ·cases h
 ·rename_i h1
  simp only[not_or] at h1
  cases h
  have hd:s.all isDigit=true:=by simpa using h1.2.2.2
  have:=qBB s 0 hd;have hpw:10 ^ s.length≤10 ^ most:=Nat.pow_le_pow_right (by decide) (by omega);refine⟨?_,by omega,by omega⟩;show kT 0 s<_;omega
end Stl
namespace Stl
theorem qEE:∀ (l:List (qB×Nd)) (s:qB) (x:Nd),hZ l s=some x→(s,x)∈l
 | [],_,_,h=>by unfold hZ at h;cases h
 | (nm,y)::r,s,x,h=>by
  unfold hZ at h;by_cases hn:nm=s
  ·rw[zM1 hn] at h
   cases h
   rw[hn];exact List.mem_cons_self
  ·rw[zL1 hn] at h;exact List.mem_cons_of_mem _ (qEE r s x h)
theorem qGa {α β:Type}(f:α→List β){l:List α}{x:α}(h:x∈l):(f x).length≤(l.flatMap f).length:=by
 obtain⟨a,b,rfl⟩:=List.append_of_mem h;simp only[List.flatMap_append,List.flatMap_cons,zP];omega
theorem qGA (n:Nd)(p:qB)(d:Nat):flat n p d=(⟨p,d,n⟩:It)::(n.kids.map fun q=>(⟨p++47::q.1,d+1,q.2⟩:It)).flatMap fun x=>flat x.n x.path x.deep:=qNy ⟨p,d,n⟩
theorem qBT:∀ (l:List qB) (n:Nd) (p:qB) (d:Nat) (x:Nd),jJ n l=some x→∃ p' d',(∀ it∈flat x p' d',it∈flat n p d)∧(flat x p' d').length≤(flat n p d).length
 | [],n,p,d,x,h=>by
  unfold jJ at h
  cases h
  exact⟨p,d,fun _ h=>h,zo _⟩
 | s::l,n,p,d,x,h=>by
  unfold jJ at h
  cases hk:hZ n.kids s with
  | none=>rw[hk] at h;cases h
  | some y =>
   rw[hk] at h;have hm:=qEE _ _ _ hk;obtain⟨p',d',h1,h2⟩:=qBT l y (p++47::s) (d+1) x h;have hq:(⟨p++47::s,d+1,y⟩:It)∈(n.kids.map fun q=>(⟨p++47::q.1,d+1,q.2⟩:It)):=zb.2 ⟨_,hm,rfl⟩;refine⟨p',d',fun it hi=>?_,?_⟩
   ·rw[qGA n p d];exact List.mem_cons_of_mem _ (za.2 ⟨_,hq,h1 it hi⟩)
   ·rw[qGA n p d];have:=qGa (fun x:It=>flat x.n x.path x.deep) hq;simp only[zQ];have h3:(flat y (p++47::s) (d+1)).length≤((n.kids.map fun q=>(⟨p++47::q.1,d+1,q.2⟩:It)).flatMap fun x=>flat x.n x.path x.deep).length:=this;omega
theorem qAY {α β:Type}(f:α→List β):∀ (l:List α),(∀ x∈l,1≤(f x).length)→l.length≤(l.flatMap f).length
 | [],_=>zo _
 | x::r,h=>by
  have h1:=qAY f r (fun y hy=>h y (List.mem_cons_of_mem _ hy));have h2:=h x List.mem_cons_self;simp only[List.flatMap_cons,zP,zQ];omega
theorem qJb (n:Nd)(p:qB)(d:Nat):n.kids.length≤(flat n p d).length:=by
 rw[qGA n p d];have h1:=qAY (fun x:It=>flat x.n x.path x.deep) (n.kids.map fun q=>(⟨p++47::q.1,d+1,q.2⟩:It)) (fun x _=>List.length_pos_iff.2 (List.ne_nil_of_mem (flat_head x.n x.path x.deep)));rw[zT] at h1;simp only[zQ];omega
theorem qMy {n x:Nd}{p:qB}(h:getPath n p=.ok x):x.kids.length≤200∧∀ q∈x.kids,q.1.length≤12:=by
 unfold getPath at h;by_cases h0:treeErr n≠0
 ·rw[zM1 h0] at h;cases h
 ·rw[zL1 h0] at h;have h0:treeErr n=0:=Decidable.of_not_not h0
  cases hs:qQ p with
  | none=>rw[hs] at h;cases h
  | some l =>
   rw[hs] at h;simp only at h
   cases ha:jJ n l with
   | none=>rw[ha] at h;cases h
   | some y =>
    rw[ha] at h
    cases h
    obtain⟨p',d',h1,h2⟩:=qBT l n [] 0 x ha;obtain⟨h3,h4⟩:=items_well h0;refine⟨by have:=qJb x p' d';omega,fun q hq=>?_⟩;have h5:=(h4 _ (h1 _ (flat_head x p' d'))).1;have h6:ownErr x=0:=h5;unfold ownErr ownErrP at h6;have h7:(x.kids.map (·.1)).all isName=true:=by
     repeat' split at h6
     all_goals first | omega | skip
     rename_i h _
     simpa using h
    exact vT (List.all_eq_true.1 h7 q.1 (zb.2 ⟨q,hq,rfl⟩))
theorem kB (m:Nat):∀ (l:List qB),(∀ x∈l,x.length≤m)→(qT l).length≤7+l.length*(m+1)
 | [],_=>by show 7≤_;omega
 | [x],h=>by
  have:=h x (by simp);show x.length≤7+1*(m+1);omega
 | x::y::r,h=>by
  have h1:=kB m (y::r) (fun z hz=>h z (List.mem_cons_of_mem _ hz));have h2:=h x (by simp);show (x++32::qT (y::r)).length≤_;simp only[zP,zQ] at h1 ⊢;rw[Nat.add_mul (r.length+1) 1];omega
def place (s:qB):List qB→Nat
 | []=>0
 | x::r=>if x<s then place s r+1 else 0
theorem qD1 (s:qB):∀ l,place s l≤l.length
 | []=>zo _
 | x::r=>by
  unfold place;split
  ·have:=qD1 s r;simp only[zQ];omega
  ·exact zw _
theorem qFZ (s:qB):∀ (l:List qB) (t:Nat),t<place s l→∃ x,l[t]?=some x∧x<s
 | [],t,h=>by simp[place] at h
 | x::r,t,h=>by
  unfold place at h;split at h
  ·rename_i hx
   cases t with
   | zero=>exact⟨x,rfl,hx⟩
   | succ t=>simpa using qFZ s r t (by omega)
  ·omega
theorem qDJ (s:qB):∀ (l:List qB),Rise l→∀ (t:Nat) x,place s l≤t→l[t]?=some x→¬ x<s
 | [],_,t,x,_,h=>by simp at h
 | y::r,hr,t,x,ht,h=>by
  obtain⟨h1,h2⟩:=zi.1 hr;unfold place at ht;split at ht
  ·cases t with
   | zero=>omega
   | succ t=>exact qDJ s r h2 t x (by omega) (by simpa using h)
  ·rename_i hy
   cases t with
   | zero =>
    have:y=x:=by simpa using h
    rw[← this];exact hy
   | succ t =>
    have hx:x∈r:=List.mem_of_getElem? (by simpa using h);intro hxs;exact hy (List.lt_trans (h1 x hx) hxs)
theorem qDX (s:qB):∀ (l:List qB),Rise l→(s∈l↔l[place s l]?=some s)
 | [],_=>by simp[place]
 | x::r,hr=>by
  obtain⟨h1,h2⟩:=zi.1 hr;unfold place;by_cases hx:x<s
  ·rw[zM1 hx];have hne:x≠s:=fun e=>by subst e;exact List.lt_irrefl _ hx
   rw[zY];have:=qDX s r h2;simp only[List.getElem?_cons_succ];rw[← this];constructor
   ·rintro (h | h)
    ·exact absurd h.symm hne
    ·exact h
   ·exact .inr
  ·rw[zL1 hx];simp only[List.getElem?_cons_zero,zB1];constructor
   ·intro h
    rcases zY.1 h with h | h
    ·exact h.symm
    ·exact absurd (h1 s h) hx
   ·intro h;rw[h];simp
theorem qFS (s:qB):∀ (l:List qB),s∉l→ins s l=l.take (place s l)++s::l.drop (place s l)
 | [],_=>rfl
 | x::r,h=>by
  unfold ins place;by_cases hx:x<s
  ·rw[zM1 hx,zM1 hx,qFS s r (fun h2=>h (by simp[h2]))];rfl
  ·rw[zL1 hx,zL1 hx,zL1 (fun e=>h (by simp[e]))];rfl
end Stl
