/- Lemmas. -/
import Derived.Maps.AppendAt
import Derived.Maps.OwnSet
import Derived.Maps.RangeWalk
import Derived.RegionTactic
import Derived.Tactics
import Derived.Test.YtbmkaekimccdgaaGreatDoorBm02
set_option maxHeartbeats 16000000
set_option maxRecDepth 1000000
set_option linter.all false
namespace Stl
def yT:Nat→List Bool→List Nat
 | _,[]=>[]
 | i,true::r=>yT (i+1) r
 | i,false::r=>i::yT (i+1) r
def uO:Nat→List Bool→List Nat
 | _,[]=>[]
 | i,false::r=>uO (i+1) r
 | i,true::r=>i::uO (i+1) r
def uZ (U:List Bool):List Nat:=yT 0 U
def ons (U:List Bool):List Nat:=uO 0 U
def yV (U:List Bool)(v:Bool):List Nat→List Bool
 | []=>U
 | k::r=>yV (U.set k v) v r
theorem qA4:∀ (a b:List Bool) (i:Nat),uO i (a++b)=uO i a++uO (i+a.length) b
 | [],b,i=>by simp[uO]
 | true::a,b,i=>by simp[uO,qA4 a b (i+1),Nat.add_assoc,Nat.add_comm 1]
 | false::a,b,i=>by simp[uO,qA4 a b (i+1),Nat.add_assoc,Nat.add_comm 1]
theorem wG:∀ (a b:List Bool) (i:Nat),yT i (a++b)=yT i a++yT (i+a.length) b
 | [],b,i=>by simp[yT]
 | true::a,b,i=>by simp[yT,wG a b (i+1),Nat.add_assoc,Nat.add_comm 1]
 | false::a,b,i=>by simp[yT,wG a b (i+1),Nat.add_assoc,Nat.add_comm 1]
theorem xL:∀ (U:List Bool) (i:Nat),(uO i U).length+(yT i U).length=U.length
 | [],_=>rfl
 | true::r,i=>by have:=xL r (i+1);simp[uO,yT];omega
 | false::r,i=>by have:=xL r (i+1);simp[uO,yT];omega
theorem yQ:∀ (ks:List Nat) (U:List Bool) (v:Bool),(yV U v ks).length=U.length
 | [],_,_=>rfl
 | k::r,U,v=>by rw[yV,yQ r];simp
theorem nM:∀ (ks:List Nat) (U:List Bool) (v:Bool) (j:Nat),j<U.length→(yV U v ks)[j]?=if j∈ks then some v else U[j]?
 | [],U,v,j,_=>by simp[yV]
 | k::r,U,v,j,hj=>by
  rw[yV,nM r (U.set k v) v j (by simpa using hj)];by_cases h1:j∈r
  ·simp[h1]
  ·by_cases h2:j=k
   ·subst h2;simp[h1,hj]
   ·simp[h1,h2,List.getElem?_set,Ne.symm h2]
def vN (T:Tab):List Bool:=(List.range T.disk.length).map T.isUsed
theorem jB (T:Tab):(vN T).length=T.disk.length:=by simp[vN]
theorem gV {T:Tab}{k:Nat}(h:k<T.disk.length):(vN T)[k]?=some (T.isUsed k):=by simp[vN,h]
theorem qCT (p:Nat→Bool):∀ (n i:Nat),yT i ((List.range' i n).map p)=(List.range' i n).filter fun k=>!p k
 | 0,_=>rfl
 | n+1,i=>by
  rw[List.range'_succ,zV,zI]
  cases h:p i<;>simp[yT,h,qCT p n (i+1)]
theorem hQ (T:Tab):uZ (vN T)=T.free:=by
 unfold uZ vN Tab.free;rw[List.range_eq_range'];exact qCT T.isUsed _ 0
theorem qFH {U V:List Bool}(hl:U.length=V.length)(h:∀ j,j<U.length→U[j]?=V[j]?):U=V:=by
 apply List.ext_getElem?;intro j
 rcases zu j U.length with h1 | h1
 ·exact h j h1
 ·rw[List.getElem?_eq_none h1,List.getElem?_eq_none (by omega)]
theorem qE4 {T T':Tab}(h:∀ m,(T'.at_ m).map (·.blocks)=(T.at_ m).map (·.blocks))(k:Nat):T'.isUsed k=T.isUsed k:=by
 have half:∀ {A B:Tab},(∀ m,(A.at_ m).map (·.blocks)=(B.at_ m).map (·.blocks))→A.isUsed k=true→B.isUsed k=true:=by
  intro A B h hA;obtain⟨n,x,h1,h2⟩:=jE.1 hA;have h3:=h n;rw[h1] at h3
  cases hb:B.at_ n with
  | none=>rw[hb] at h3;cases h3
  | some y =>
   rw[hb] at h3;simp only[zA1,zB1] at h3;exact jE.2 ⟨n,y,hb,by rw[← h3];exact h2⟩
 cases h1:T.isUsed k with
 | true=>exact half (fun m=>(h m).symm) h1
 | false =>
  cases h2:T'.isUsed k with
  | false=>rfl
  | true=>rw[half h h2] at h1;cases h1
theorem qB7 {T T':Tab}(hd:T'.disk.length=T.disk.length)(h:∀ m,(T'.at_ m).map (·.blocks)=(T.at_ m).map (·.blocks)):vN T'=vN T:=by
 unfold vN;rw[hd];exact List.map_congr_left fun k _=>qE4 h k
theorem qGL {T T':Tab}{data:qB}{exec:Bool}{n:Nat}(h:T.make data exec=.ok (n,T')):vN T'=yV (vN T) true ((uZ (vN T)).take (jL data.length)):=by
 have hat:=mV h;have hwas:=pK h;obtain⟨_,_,_,e⟩:=yP h;have hdl:T'.disk.length=T.disk.length:=by rw[e];exact jX _ _ _
 rw[hQ];apply qFH (by rw[yQ,jB,jB,hdl]);intro j hj;rw[jB,hdl] at hj;rw[nM _ _ _ _ (by rw[jB];exact hj),gV (by rw[hdl];exact hj),gV hj];by_cases hm:j∈T.free.take (jL data.length)
 ·rw[zM1 hm];exact congrArg some (jE.2 ⟨n,_,by rw[hat,zM1 rfl],hm⟩)
 ·rw[zL1 hm];congr 1
  cases hu:T.isUsed j with
  | true =>
   obtain⟨m,x,h1,h2⟩:=jE.1 hu;refine jE.2 ⟨m,x,?_,h2⟩;rw[hat,zL1 (fun e=>by subst e;rw[hwas] at h1;cases h1)];exact h1
  | false =>
   cases hu2:T'.isUsed j with
   | false=>rfl
   | true =>
    obtain⟨m,x,h1,h2⟩:=jE.1 hu2;rw[hat] at h1;by_cases hmn:m=n
    ·rw[zM1 hmn] at h1
     cases h1
     exact absurd h2 hm
    ·rw[zL1 hmn] at h1;rw[jE.2 ⟨m,x,h1,h2⟩] at hu
     cases hu
theorem qGq {T:Tab}{n:Nat}{x:Ino}(ht:yX T)(hx:T.at_ n=some x):vN { T with l:=T.l.set n none }=yV (vN T) false x.blocks:=by
 have hn:=nH hx;have hat:∀ m,Tab.at_ { T with l:=T.l.set n none } m=if m=n then none else T.at_ m:=fun m=>uU T.l n none hn m
 apply qFH (by rw[yQ,jB,jB]);intro j hj;rw[jB] at hj;have hj':j<T.disk.length:=hj;rw[nM _ _ _ _ (by rw[jB];exact hj'),gV hj,gV hj'];by_cases hm:j∈x.blocks
 ·rw[zM1 hm];congr 1
  cases hu:Tab.isUsed { T with l:=T.l.set n none } j with
  | false=>rfl
  | true =>
   obtain⟨m,y,h1,h2⟩:=jE.1 hu;rw[hat] at h1;by_cases hmn:m=n
   ·rw[zM1 hmn] at h1;cases h1
   ·rw[zL1 hmn] at h1;exact absurd (ht.apart m n y x j h1 hx h2 hm) hmn
 ·rw[zL1 hm];congr 1
  cases hu:T.isUsed j with
  | true =>
   obtain⟨m,y,h1,h2⟩:=jE.1 hu;have hmn:m≠n:=fun e=>by subst e;rw[hx] at h1;cases h1;exact hm h2
   exact jE.2 ⟨m,y,by rw[hat,zL1 hmn];exact h1,h2⟩
  | false =>
   cases hu2:Tab.isUsed { T with l:=T.l.set n none } j with
   | false=>rfl
   | true =>
    obtain⟨m,y,h1,h2⟩:=jE.1 hu2;rw[hat] at h1;by_cases hmn:m=n
    ·rw[zM1 hmn] at h1;cases h1
    ·rw[zL1 hmn] at h1;rw[jE.2 ⟨m,y,h1,h2⟩] at hu
     cases hu
theorem pB (x:UInt32):BitVec.ofInt 32 (x.toNat:Int)=x.toBitVec:=by
 rw[BitVec.ofInt_natCast];simp
theorem u32_xor (x y:UInt32):(BitVec.ofInt 32 (x.toNat:Int) ^^^ BitVec.ofInt 32 (y.toNat:Int)).toNat=(x ^^^ y).toNat:=by
 rw[pB,pB];rfl
theorem u32_and (x y:UInt32):(BitVec.ofInt 32 (x.toNat:Int) &&& BitVec.ofInt 32 (y.toNat:Int)).toNat=(x &&& y).toNat:=by
 rw[pB,pB];rfl
theorem qHG (n:Nat)(h:n<4294967296):Go.IntKind.wrap .u32 (n:Int)=n:=by
 simp[Go.IntKind.wrap,Go.IntKind.bits,Go.IntKind.signed];omega
end Stl
namespace Stl
open Go Go.RowKit
inductive Col where
 | free | ro | dead | sto | stoL | roots | dirs | dirsMap | files (k:Nat) | tab | tabMap | stat (n:Nat) | space | used | disk | diskL | wait | tape | tapeL
 deriving DecidableEq
structure Ext (w w2:World)(c c2:Nat→Col)(S:Col→Bool):Prop where
 os:w2.os=w.os
 tape:w2.tape=w.tape
 output:w2.output=w.output
 size:w.heap.size≤w2.heap.size
 keep:∀ b,b<w.heap.size→S (c b)=false→w2.heap[b]?=w.heap[b]?∧c2 b=c b
def S0:Col→Bool:=fun _=>false
def S1 (x:Col):Col→Bool:=fun y=>decide (y=x)
theorem yU {x y:Col}(h:y≠x):S1 x y=false:=by simp[S1,h]
theorem jP {S:Col→Bool}{y:Col}(h:S y=true):∀ x,S x=false→S1 y x=false:=fun x hx=>yU (fun e=>by subst e;rw[h] at hx;cases hx)
section
variable {w w2 w3:World}{c c2 c3:Nat→Col}{S S':Col→Bool}
theorem Ext.refl (w:World)(c:Nat→Col)(S:Col→Bool):Ext w w c c S:=⟨rfl,rfl,rfl,zo _,fun _ _ _=>⟨rfl,rfl⟩⟩
theorem Ext.mono (h:Ext w w2 c c2 S)(hS:∀ x,S' x=false→S x=false):Ext w w2 c c2 S':=⟨h.os,h.tape,h.output,h.size,fun b hb hs=>h.keep b hb (hS _ hs)⟩
theorem Ext.trans (h:Ext w w2 c c2 S)(k:Ext w2 w3 c2 c3 S):Ext w w3 c c3 S :=
 ⟨k.os.trans h.os,k.tape.trans h.tape,k.output.trans h.output,zq h.size k.size,fun b hb hs=>by
  obtain⟨h1,h2⟩:=h.keep b hb hs
  obtain⟨k1,k2⟩:=k.keep b (zt hb h.size) (by rw[h2];exact hs)
  exact⟨k1.trans h1,k2.trans h2⟩⟩
theorem Ext.then (h:Ext w w2 c c2 S)(k:Ext w2 w3 c2 c3 S')(hS:∀ x,S x=false→S' x=false):Ext w w3 c c3 S:=h.trans (k.mono hS)
theorem Ext.of_below (h:Below w.heap.size w w2)(c:Nat→Col)(S:Col→Bool):Ext w w2 c c S:=⟨h.os,h.tape,h.output,h.size,fun b hb _=>⟨h.block b hb,rfl⟩⟩
theorem Ext.drew (h:Ext w w2 c c2 S):Ext w w2.drew c c2 S:=⟨h.os,h.tape,h.output,h.size,h.keep⟩
theorem Ext.alloc (h:Ext w w2 c c2 S)(o:Obj):Ext w (w2.alloc o) c c2 S :=
 ⟨h.os,h.tape,h.output,zq h.size (by simp),fun b hb hs=>⟨(Below.heap_alloc _ _ _ (zt hb h.size)).trans (h.keep b hb hs).1,(h.keep b hb hs).2⟩⟩
theorem Ext.setCell (h:Ext w w2 c c2 S){a:Addr}(ha:a.block<w.heap.size→S (c a.block)=true)(u:Value):Ext w (w2.setCell a u) c c2 S :=
 ⟨h.os,h.tape,h.output,by simpa[World.setCell] using h.size,fun b hb hs=>⟨(zA _ _ _ _ (fun e=>by subst e;rw[ha hb] at hs;cases hs)).trans (h.keep b hb hs).1,(h.keep b hb hs).2⟩⟩
theorem Ext.grown {row:Option Nat}(h:Ext w w2 c c2 S)(hg:w2.grownBy w3 row)(hr:∀ k,row=some k→k<w.heap.size→S (c k)=true):Ext w w3 c c2 S :=
 ⟨hg.os.trans h.os,hg.tape.trans h.tape,hg.output.trans h.output,zq h.size hg.size,
  fun b hb hs=>⟨(hg.block b (zt hb h.size) (fun e=>by rw[hr b e.symm hb] at hs;cases hs)).trans (h.keep b hb hs).1,(h.keep b hb hs).2⟩⟩
theorem Ext.recolor (h:Ext w w2 c c2 S)(hc:∀ b,b<w.heap.size→S (c b)=false→c3 b=c2 b):Ext w w2 c c3 S :=
 ⟨h.os,h.tape,h.output,h.size,fun b hb hs=>⟨(h.keep b hb hs).1,(hc b hb hs).trans (h.keep b hb hs).2⟩⟩
theorem Ext.below (h:Ext w w2 c c2 S){B:Nat}(hB:B≤w.heap.size)(hlow:∀ b,b<B→S (c b)=false):Below B w w2 :=
 ⟨h.os,h.tape,h.output,h.size,fun b hb=>(h.keep b (zt hb hB) (hlow b hb)).1⟩
def jC (c:Nat→Col)(b:Nat)(x:Col):Nat→Col:=fun k=>if k=b then x else c k
theorem qM (c:Nat→Col)(b:Nat)(x:Col):jC c b x b=x:=by simp[jC]
theorem kK {b k:Nat}{x:Col}(h:k≠b):jC c b x k=c k:=by simp[jC,h]
theorem qJ {b k n:Nat}{x:Col}(h:k<n)(hb:n≤b):jC c b x k=c k:=kK (by omega)
theorem Ext.made (w:World)(c:Nat→Col)(S:Col→Bool)(o:Obj)(x:Col):Ext w (w.alloc o) c (jC c w.heap.size x) S :=
 ((Ext.refl w c S).alloc o).recolor (fun b hb _=>qJ hb (zo _))
theorem qCS {a b:Nat}{x y:Col}(ha:c a=x)(hb:c b=y)(h:x≠y):a≠b:=fun e=>h (by rw[← ha,← hb,e])
theorem qA {b:Nat}{o:Obj}(h:w.heap[b]?=some o):b<w.heap.size:=(Array.getElem?_eq_some_iff.1 h).1
theorem Ext.kept (h:Ext w w2 c c2 S){b:Nat}{o:Obj}{x:Col}(hb:w.heap[b]?=some o)(hc:c b=x)(hS:S x=false):w2.heap[b]?=some o∧c2 b=x:=by
 obtain⟨h1,h2⟩:=h.keep b (qA hb) (by rw[hc];exact hS);exact⟨h1.trans hb,h2.trans hc⟩
theorem Ext.col (h:Ext w w2 c c2 S){b:Nat}{x:Col}(hb:b<w.heap.size)(hc:c b=x)(hS:S x=false):c2 b=x:=(h.keep b hb (by rw[hc];exact hS)).2.trans hc
theorem Ext.row (h:Ext w w2 c c2 S){base:Nat}{e:TypeId}{size:Nat}{v:Value}{n:Nat}{xs:List Value}{x:Col}(hr:w.ownsRow base e size v n xs)(hc:∀ k,v.ownBlock=some k→c k=x)(hS:S x=false) :
  w2.ownsRow base e size v n xs∧∀ k,v.ownBlock=some k→c2 k=x:=by
 refine⟨?_,fun k hk=>h.col (hr.lt k hk).2 (hc k hk) hS⟩;obtain⟨h1,h2⟩:=hr;refine⟨h1,?_⟩
 rcases h2 with h2 | ⟨g,cap,cur,rfl,hb,hg,h3⟩
 ·exact .inl h2
 ·exact .inr ⟨g,cap,cur,rfl,hb,(h.kept hg (hc g rfl) hS).1,h3⟩
end
theorem qKc {w:World}{b:Nat}{cs:Array Value}{t:TypeId}{fr:Nat×Nat}(h:w.heap[b]?=some (.cells cs t fr))(i:Nat):w.cell? ⟨b,i,none⟩=cs[i]?:=by
 simp[World.cell?,h]
theorem qC {w:World}{b:Nat}{cs:Array Value}{t:TypeId}(h:w.heap[b]?=some (.cells cs t (0,0)))(i:Nat):w.frozen? ⟨b,i,none⟩=false:=by
 simp[World.frozen?,h]
theorem fq {w:World}{b:Nat}{cs:Array Value}{t:TypeId}(h:w.heap[b]?=some (.cells cs t (0,0))):w.frozen? ⟨b,0,none⟩=false∧w.frozen? ⟨b,1,none⟩=false∧w.frozen? ⟨b,2,none⟩=false∧w.frozen? ⟨b,3,none⟩=false:=⟨qC h 0,qC h 1,qC h 2,qC h 3⟩
theorem qH {w:World}{b:Nat}{cs:Array Value}{t:TypeId}{fr:Nat×Nat}(h:w.heap[b]?=some (.cells cs t fr))(i:Nat)(u:Value):(w.setCell ⟨b,i,none⟩ u).heap[b]?=some (.cells (cs.setIfInBounds i u) t fr):=by
 simp[World.setCell,Array.getElem?_modify,h]
theorem Ext.cell {w:World}{c:Nat→Col}{b:Nat}{cs:Array Value}{t:TypeId}{fr:Nat×Nat}{x:Col}(h:w.heap[b]?=some (.cells cs t fr))(hc:c b=x)(i:Nat)(u:Value) :
  (w.setCell ⟨b,i,none⟩ u).heap[b]?=some (.cells (cs.setIfInBounds i u) t fr)∧Ext w (w.setCell ⟨b,i,none⟩ u) c c (S1 x) :=
 ⟨qH h i u,(Ext.refl w c (S1 x)).setCell (fun _=>by rw[hc];simp[S1]) u⟩
end Stl
namespace Stl
open Go Go.Maps
def wK:Value→Option (DataW Value×List MemPlace):=fun v=>some (.held v,[])
structure MapIs {α:Type}(key:α→Lit)(D:DataW Value)(f:α→Option Value):Prop where
 map:IsMap D
 at_:∀ k v,f k=some v→∀ z,D.atKey (key k) z=.held v
 none_:∀ k,f k=none→has D (key k)=false
 has_:∀ l,has D l=true→∃ k v,l=key k∧f k=some v
section
variable {α:Type}{key:α→Lit}{D:DataW Value}{f:α→Option Value}
theorem MapIs.empty:MapIs key (.map []:DataW Value) (fun _:α=>none) :=
 ⟨isMap_empty,fun k v h=>(by cases h),fun k _=>rfl,fun l h=>(by cases h)⟩
theorem MapIs.has_at (h:MapIs key D f){k:α}{v:Value}(hk:f k=some v):has D (key k)=true:=has_true_of_atKey (h.at_ k v hk)
theorem MapIs.has_eq (h:MapIs key D f)(k:α):has D (key k)=(f k).isSome:=by
 cases hk:f k with
 | none=>simpa using h.none_ k hk
 | some v=>simpa using h.has_at hk
theorem MapIs.zero (h:MapIs key D f){k:α}(hk:f k=none)(z:DataW Value):D.atKey (key k) z=z:=atKey_of_not_has (h.none_ k hk) z
theorem MapIs.look (h:MapIs key D f)(k:α)(z:Value):D.atKey (key k) (.held z)=.held ((f k).getD z):=by
 cases hk:f k with
 | none=>simpa using h.zero hk _
 | some v=>simpa using h.at_ k v hk _
theorem MapIs.put [DecidableEq α](h:MapIs key D f)(inj:∀ a b,key a=key b→a=b)(k:α)(hk:WideAt.IsKeyLit (key k))(v:Value):MapIs key (D.put (key k) (.held v)) (fun j=>if j=k then some v else f j):=by
 refine⟨h.map.put _ _,?_,?_,?_⟩
 ·intro j u hj z;by_cases e:j=k
  ·subst e;rw[zM1 rfl] at hj
   cases hj
   exact atKey_put_same h.map hk _ _
  ·rw[zL1 e] at hj;rw[atKey_put_other (fun h'=>e (inj _ _ h'))];exact h.at_ j u hj z
 ·intro j hj;by_cases e:j=k
  ·rw[zM1 e] at hj;cases hj
  ·rw[zL1 e] at hj;rw[has_put_other (fun h'=>e (inj _ _ h'))];exact h.none_ j hj
 ·intro l hl;by_cases e:l=key k
  ·exact⟨k,v,e,by simp⟩
  ·rw[has_put_other e] at hl;obtain⟨j,u,rfl,hj⟩:=h.has_ l hl;exact⟨j,u,rfl,by rw[zL1 (fun h'=>e (by rw[h']))];exact hj⟩
theorem MapIs.del [DecidableEq α](h:MapIs key D f)(inj:∀ a b,key a=key b→a=b)(k:α):MapIs key (D.del (key k)) (fun j=>if j=k then none else f j):=by
 refine⟨h.map.del _,?_,?_,?_⟩
 ·intro j u hj z;by_cases e:j=k
  ·rw[zM1 e] at hj;cases hj
  ·rw[zL1 e] at hj;rw[atKey_del_other (fun h'=>e (inj _ _ h'))];exact h.at_ j u hj z
 ·intro j hj;by_cases e:j=k
  ·subst e;exact has_del_same
  ·rw[zL1 e] at hj;rw[has_del_other (fun h'=>e (inj _ _ h'))];exact h.none_ j hj
 ·intro l hl;by_cases e:l=key k
  ·rw[e,has_del_same] at hl;cases hl
  ·rw[has_del_other e] at hl;obtain⟨j,u,rfl,hj⟩:=h.has_ l hl;exact⟨j,u,rfl,by rw[zL1 (fun h'=>e (by rw[h']))];exact hj⟩
theorem MapIs.congr {g:α→Option Value}(h:MapIs key D f)(e:∀ k,g k=f k):MapIs key D g:=by
 obtain rfl:g=f:=funext e;exact h
end
def dY (k:Nat):Lit:=.int .i64 k
def oB (s:List UInt8):Lit:=.string s
theorem qLK (a b:Nat)(h:dY a=dY b):a=b:=by
 simp only[dY,Lit.int.injEq,true_and] at h;exact Int.ofNat.inj h
theorem qLO (a b:List UInt8)(h:oB a=oB b):a=b:=by
 simpa[oB] using h
structure pM {α:Type}(P:Program)(k:TypeId)(mk:α→Value)(key:α→Lit)(ok:α→Prop):Prop where
 keyed:Keyed P k
 of:∀ x,ok x→keyOf P k (mk x)=some (key x)
 inj:∀ a b,key a=key b→a=b
def zzMapAt {α:Type}(P:Program)(k:TypeId)(key:α→Lit)(w:World)(b n:Nat)(f:α→Option Value):Prop:=∃ D:DataW Value,w.ownsMap P k wK b n D∧MapIs key D f
def RangeAt {α:Type}(P:Program)(k:TypeId)(key:α→Lit)(w:World)(b r n:Nat)(f:α→Option Value)(left:α→Bool)(cnt:Nat):Prop :=
 ∃ (D:DataW Value) (L:Lit→Bool),w.ranges P k wK b r n D L cnt∧MapIs key D f∧∀ x,L (key x)=left x
theorem qBV:∀ (a b:List Lit),a.Pairwise (·≠·)→(∀ x∈a,x∈b)→a.length≤b.length
 | [],_,_,_=>zw _
 | x::r,b,hp,h=>by
  obtain⟨h1,h2⟩:=zi.1 hp;have hx:=h x (by simp);obtain⟨l,m,rfl⟩:=List.append_of_mem hx;have:=qBV r (l++m) h2 (fun y hy=>by
   have:=h y (by simp[hy])
   simp only[zX,zY] at this ⊢
   rcases this with h3 | h3 | h3
   ·exact .inl h3
   ·exact absurd h3.symm (h1 y hy)
   ·exact .inr h3)
  simp at this ⊢;omega
section
variable {α:Type}{P:Program}{k e t:TypeId}{mk:α→Value}{key:α→Lit}{ok:α→Prop}{w:World}{b n:Nat}{f:α→Option Value}
theorem zzMapAt.lt (h:zzMapAt P k key w b n f):b<w.heap.size:=by obtain⟨D,h1,_⟩:=h;exact h1.lt
theorem zzMapAt.mono (h:zzMapAt P k key w b n f){m:Nat}(hm:n≤m):zzMapAt P k key w b m f:=by obtain⟨D,h1,h2⟩:=h;exact⟨D,h1.mono hm,h2⟩
theorem zzMapAt.congr {g:α→Option Value}(h:zzMapAt P k key w b n f)(e:∀ x,g x=f x):zzMapAt P k key w b n g:=by obtain⟨D,h1,h2⟩:=h;exact⟨D,h1,h2.congr e⟩
theorem zzMapAt.kept {w':World}{row:Option Nat}(h:zzMapAt P k key w b n f)(hg:w.grownBy w' row)(hne:some b≠row):zzMapAt P k key w' b n f:=by obtain⟨D,h1,h2⟩:=h;exact⟨D,h1.kept hg hne,h2⟩
theorem zzMapAt.of_block {w':World}(h:zzMapAt P k key w b n f)(hb:w'.heap[b]?=w.heap[b]?):zzMapAt P k key w' b n f:=by
 obtain⟨D,⟨es,clock,h0,F,hs,hD⟩,h2⟩:=h;exact⟨D,⟨es,clock,hb.trans h0,F,hs,hD⟩,h2⟩
theorem zzMapAt.made (w:World)(P:Program)(k:TypeId)(key:α→Lit):zzMapAt P k key (w.alloc (.map #[] 0)) w.heap.size 0 (fun _=>none):=⟨_,World.ownsMap_made w P k wK,MapIs.empty⟩
theorem zzMapAt.ext {w':World}{c c2:Nat→Col}{S:Col→Bool}(h:zzMapAt P k key w b n f)(e:Ext w w' c c2 S){x:Col}(hc:c b=x)(hS:S x=false):zzMapAt P k key w' b n f :=
 h.of_block (e.keep b h.lt (by rw[hc];exact hS)).1
theorem zzMapAt.tight (h:zzMapAt P k key w b n f)(K:Keyed P k)(l:List α)(hl:∀ x,(f x).isSome=true→x∈l):zzMapAt P k key w b l.length f:=by
 obtain⟨D,h1,h2⟩:=h;obtain⟨es',hD,hp,hk⟩:=h1.entries K;obtain⟨es,clock,hb,F,hs,hE⟩:=h1;refine⟨D,⟨es,clock,hb,F,?_,hE⟩,h2⟩;have e1:es.size=es'.length:=by
  rw[hE] at hD;simp only[DataW.map.injEq] at hD;rw[← hD,length_sorted];simp
 rw[e1];have:=qBV (es'.map (·.1)) (l.map key) (List.pairwise_map.2 hp) (fun x hx=>by
  obtain⟨p,hp,rfl⟩:=zb.1 hx
  have hh:has D p.1=true:=by
   rw[hD,has_eq]
   exact List.any_eq_true.2 ⟨p,hp,WideAt.sameKey_self (hk p hp)⟩
  obtain⟨y,v,h3,h4⟩:=h2.has_ _ hh
  rw[h3]
  exact zb.2 ⟨y,hl y (by rw[h4];rfl),rfl⟩)
 simpa using this
theorem zzMapAt.getOk (h:zzMapAt P k key w b n f)(K:pM P k mk key ok)(ht:P.underlying t=some (.map k e)){z:Value}(hz:(zeroValue e).run P w=.ok z w){i:α}(hi:ok i) :
  (Instr.lookup t (.map (some b)) (mk i) true).run P w=.ok (.tuple #[(f i).getD z,.bool (f i).isSome]) w:=by
 obtain⟨D,h1,h2⟩:=h;obtain⟨v,ps,hr,hv⟩:=h1.look_ok K.keyed ht hz (zd:=.held z) (zp:=[]) rfl (K.of i hi);rw[h2.look i z] at hv;simp only[wK,zB1,Prod.mk.injEq,DataW.held.injEq] at hv;rw[hr,hv.1,h2.has_eq i]
theorem zzMapAt.get (h:zzMapAt P k key w b n f)(K:pM P k mk key ok)(ht:P.underlying t=some (.map k e)){z:Value}(hz:(zeroValue e).run P w=.ok z w){i:α}(hi:ok i) :
  (Instr.lookup t (.map (some b)) (mk i) false).run P w=.ok ((f i).getD z) w:=by
 obtain⟨D,h1,h2⟩:=h;obtain⟨v,ps,hr,hv⟩:=h1.lookup K.keyed ht hz (zd:=.held z) (zp:=[]) rfl (K.of i hi);rw[h2.look i z] at hv;simp only[wK,zB1,Prod.mk.injEq,DataW.held.injEq] at hv;rw[hr,hv.1]
theorem zzMapAt.put [DecidableEq α](h:zzMapAt P k key w b n f)(K:pM P k mk key ok)(ht:P.underlying t=some (.map k e))(hn:n<maxLen){i:α}(hi:ok i)(v:Value) :
  ∃ w',(Instr.mapUpdate t (.map (some b)) (mk i) v).run P w=.ok () w'∧zzMapAt P k key w' b (n+1) (fun j=>if j=i then some v else f j)∧w.mapTurned w' b:=by
 obtain⟨D,h1,h2⟩:=h;obtain⟨w',hr,h3,h4⟩:=h1.store K.keyed ht hn (K.of i hi) (val:=v) (d:=.held v) (ps:=[]) rfl;exact⟨w',hr,⟨_,h3,h2.put K.inj i (K.keyed.key (K.of i hi)) v⟩,h4⟩
theorem zzMapAt.del [DecidableEq α](h:zzMapAt P k key w b n f)(K:pM P k mk key ok)(ht:P.underlying t=some (.map k e)){i:α}(hi:ok i)(ty:TypeId) :
  ∃ w',(Builtin.delete_ #[t,k] ty #[.map (some b),mk i]).run P w=.ok (.tuple #[]) w'∧zzMapAt P k key w' b n (fun j=>if j=i then none else f j)∧w.mapTurned w' b:=by
 obtain⟨D,h1,h2⟩:=h;obtain⟨w',hr,h3,h4⟩:=h1.drop K.keyed ht (K.of i hi) ty;exact⟨w',hr,⟨_,h3,h2.del K.inj i⟩,h4⟩
theorem yR [DecidableEq α]{ops:Array Oper}{rest:List Oper}{o:Oper}{a:Act}{Q:Exit→Act→World→Prop}(hg:o.guard=none)(m x y:Operand)(t e:TypeId)(hop:o.op=Op.mapUpdate t m x y)(K:pM P k mk key ok)(ht:P.underlying t=some (.map k e))
  (hm:a.eval m=.map (some b)) (hown:zzMapAt P k key w b n f) (hn:n<maxLen) (i:α) (hi:ok i) (hx:a.eval x=mk i) (v:Value) (hv:a.eval y=v)
  (hK:∀ w',zzMapAt P k key w' b (n+1) (fun j=>if j=i then some v else f j)→w.mapTurned w' b→wpList P ops Q rest (a.put o.dst undef) w'):wpList P ops Q (o::rest) a w:=by
 refine wpList_plain hg fun K' hK'=>?_
 obtain⟨w',hrun,r1,r2⟩:=hown.put K ht hn hi v;unfold Oper.wp;simp[execOp,hop,hm,hx,hv,hrun,Result.andThen];exact hK' _ _ (hK w' r1 r2)
theorem qBw [DecidableEq α]{ops:Array Oper}{rest:List Oper}{o:Oper}{a:Act}{Q:Exit→Act→World→Prop}(hg:o.guard=none)(m x:Operand)(t e:TypeId)(hop:o.op=Op.call { callee:=Callee.builtin Builtin.delete,args:=#[m,x],argTypes:=#[t,k] })(K:pM P k mk key ok)(ht:P.underlying t=some (.map k e))
  (hm:a.eval m=.map (some b)) (hown:zzMapAt P k key w b n f) (i:α) (hi:ok i) (hx:a.eval x=mk i)
  (hK:∀ w',zzMapAt P k key w' b n (fun j=>if j=i then none else f j)→w.mapTurned w' b→wpList P ops Q rest (a.put o.dst (.tuple #[])) w'):wpList P ops Q (o::rest) a w:=by
 refine wpList_plain hg fun K' hK'=>?_
 obtain⟨w',hrun,r1,r2⟩:=hown.del K ht hi o.type;unfold Oper.wp;simp[execOp,hop,resolve,invoke,builtin,hm,hx,hrun,Result.andThen];exact hK' _ _ (hK w' r1 r2)
theorem Ext.turned {w w':World}{c:Nat→Col}{b:Nat}{x:Col}(h:w.mapTurned w' b)(hc:c b=x):Ext w w' c c (S1 x) :=
 (Ext.refl w c (S1 x)).grown h.grown (fun k hk _=>by injection hk with hk;rw[← hk,hc];simp[S1])
theorem qLL {D:DataW Value}{L:Lit→Bool}{r cnt:Nat}(h:w.ranges P k wK b r n D L cnt)(K:Keyed P k){l:Lit}(hl:L l=true):has D l=true:=by
 obtain⟨es,clock,since,seen,c0,hb,F,hs,rfl,hr,hold,rfl,hl1,hl2,hsc,hsk⟩:=h;obtain⟨x,hx,rfl⟩:=hl2 l hl;obtain⟨y,hy⟩:=F.reads x hx;exact List.any_eq_true.2 ⟨WideElems.rg P k wK x,mem_sorted.2 (zb.2 ⟨x,hx,rfl⟩),WideAt.sameKey_self (by rw[WideElems.rg_of hy];exact K.key (WideElems.rd_key hy))⟩
theorem RangeAt.at_ {r cnt:Nat}{left:α→Bool}(h:RangeAt P k key w b r n f left cnt):zzMapAt P k key w b n f:=by obtain⟨D,L,h1,h2,_⟩:=h;exact⟨D,h1.owns,h2⟩
theorem RangeAt.left_eq {r cnt:Nat}{left:α→Bool}(h:RangeAt P k key w b r n f left cnt):w.rangeLeft b r=cnt:=by obtain⟨D,L,h1,_⟩:=h;exact h1.left_eq
theorem RangeAt.kept {w':World}{r cnt:Nat}{left:α→Bool}{row:Option Nat}(h:RangeAt P k key w b r n f left cnt)(hg:w.grownBy w' row)(hb:some b≠row)(hr:some r≠row):RangeAt P k key w' b r n f left cnt:=by
 obtain⟨D,L,h1,h2⟩:=h;exact⟨D,L,h1.kept hg hb hr,h2⟩
theorem RangeAt.of_blocks {w':World}{r cnt:Nat}{left:α→Bool}(h:RangeAt P k key w b r n f left cnt)(hb:w'.heap[b]?=w.heap[b]?)(hr:w'.heap[r]?=w.heap[r]?):RangeAt P k key w' b r n f left cnt:=by
 obtain⟨D,L,⟨es,clock,since,seen,c0,h1,F,hs,hD,h2,rest⟩,h3⟩:=h;exact⟨D,L,⟨es,clock,since,seen,c0,hb.trans h1,F,hs,hD,hr.trans h2,rest⟩,h3⟩
theorem RangeAt.lt {r cnt:Nat}{left:α→Bool}(h:RangeAt P k key w b r n f left cnt):r<w.heap.size:=by obtain⟨D,L,h1,_⟩:=h;exact h1.lt
theorem qAc {ops:Array Oper}{rest:List Oper}{o:Oper}{a:Act}{Q:Exit→Act→World→Prop}(hg:o.guard=none)(m:Operand)(t e:TypeId)(hop:o.op=Op.range t m)(K:pM P k mk key ok)(ht:P.underlying t=some (.map k e))
  (hm:a.eval m=.map (some b)) (hown:zzMapAt P k key w b n f)
  (hK:∀ w' cnt,RangeAt P k key w' b w.heap.size n f (fun x=>(f x).isSome) cnt→w.grownBy w' none→w'.heap.size=w.heap.size+1→wpList P ops Q rest (a.put o.dst (.pointer (some ⟨w.heap.size,0,none⟩))) w') :
  wpList P ops Q (o::rest) a w:=by
 obtain⟨D,h1,h2⟩:=hown;exact wpList_range_own w hg m t hop k e K.keyed ht wK b n D hm h1 (fun w' hr hg' hs=>hK w' _ ⟨D,has D,hr,h2,h2.has_eq⟩ hg' hs)
theorem qAg [DecidableEq α]{ops:Array Oper}{rest:List Oper}{o:Oper}{a:Act}{Q:Exit→Act→World→Prop}(hg:o.guard=none)(it:Operand)(hop:o.op=Op.next it false)(K:pM P k mk key ok){r cnt:Nat}{left:α→Bool}(hok:∀ x,(f x).isSome=true→ok x)
  (hit:a.eval it=.pointer (some ⟨r,0,none⟩)) (h:RangeAt P k key w b r n f left cnt)
  (hDone:(∀ x,left x=false)→wpList P ops Q rest (a.put o.dst (.tuple #[.bool false])) w)
  (hMore:∀ (x:α) (v:Value) (w':World) (cnt':Nat),left x=true→f x=some v→RangeAt P k key w' b r n f (fun y=>left y&&decide (y≠x)) cnt'→cnt'<cnt→w.grownBy w' (some r)→w'.heap.size=w.heap.size →
   (Instr.entry (.pointer (some ⟨r,0,none⟩))).run P w'=.ok (.tuple #[mk x,v]) w'→wpList P ops Q rest (a.put o.dst (.tuple #[.bool true,mk x,v])) w') :
  wpList P ops Q (o::rest) a w:=by
 have h0:=h;obtain⟨D,L,h1,h2,h3⟩:=h;refine wpList_plain hg fun K' hK'=>?_
 unfold Oper.wp
 rcases h1.next K.keyed o.type with ⟨h4,hl,hrun⟩ | ⟨kv,v,kl,y,w',cnt',hkey,hlk,hv,hat,hrun,hrg,hlt,hgr,hsz,hen⟩
 ·simp[execOp,hop,hit,hrun,Result.andThen];exact hK' _ _ (hDone (fun x=>by rw[← h3];exact hl _))
 ·obtain⟨x,u,rfl,hfx⟩:=h2.has_ kl (qLL h1 K.keyed hlk);have hok':=hok x (by rw[hfx];rfl);have e1:kv=mk x:=K.keyed.inj hkey (K.of x hok');subst e1;have e2:u=v:=by
   have h5:=hat (.held .nilIface);rw[h2.at_ x u hfx] at h5;simp only[wK,zB1] at hv;rw[← hv] at h5;simpa using h5
  subst e2;simp[execOp,hop,hit,hrun,Result.andThen];refine hK' _ _ (hMore x u w' cnt' (by rw[← h3];exact hlk) hfx ⟨D,_,hrg,h2,fun z=>?_⟩ hlt hgr hsz hen);simp only[h3];congr 1;by_cases hz:z=x
  ·subst hz;simp[WideAt.sameKey_self (K.keyed.key (K.of z hok'))]
  ·have:key z≠key x:=fun e=>hz (K.inj _ _ e)
   simp[Maps.sameKey_ne this,hz]
end
def mkN (n:Nat):Value:=.int .i64 n
def mkS (s:List UInt8):Value:=.string ⟨s.toArray⟩
theorem qOG {P:Program}{k:TypeId}(hk:P.underlying k=some (.int .i64)):pM P k mkN dY (fun n=>n≤4611686018427387904) :=
 ⟨int_keyed hk,fun n hn=>keyOf_int_mk hk (by
  have h1:IntKind.i64.min=-9223372036854775808:=by decide
  have h2:IntKind.i64.max=9223372036854775807:=by decide
  simp[Lit.wf,h1,h2]
  omega),qLK⟩
theorem qOK {P:Program}{k:TypeId}(hk:P.underlying k=some .string):pM P k mkS oB (fun s=>s.length≤maxLen) :=
 ⟨string_keyed hk,fun s hs=>by simpa[mkS,oB] using Go.WideMaps.keyOf_string_mk hk (s:=⟨s.toArray⟩) (by simpa[ByteArray.size] using hs),qLO⟩
end Stl
open Go
section
variable {w:World}{b:Nat}{v0 v1 v2 v3 v4 v5 v6:Value}{r:List Value}{t:TypeId}{f:Nat×Nat}
theorem ce0 (h:w.heap[b]?=some (.cells (v0::r).toArray t f)):w.cell? ⟨b,0,none⟩=some v0:=by simp[World.cell?,h]
theorem ce1 (h:w.heap[b]?=some (.cells (v0::v1::r).toArray t f)):w.cell? ⟨b,1,none⟩=some v1:=by simp[World.cell?,h]
theorem ce2 (h:w.heap[b]?=some (.cells (v0::v1::v2::r).toArray t f)):w.cell? ⟨b,2,none⟩=some v2:=by simp[World.cell?,h]
theorem ce3 (h:w.heap[b]?=some (.cells (v0::v1::v2::v3::r).toArray t f)):w.cell? ⟨b,3,none⟩=some v3:=by simp[World.cell?,h]
theorem ce4 (h:w.heap[b]?=some (.cells (v0::v1::v2::v3::v4::r).toArray t f)):w.cell? ⟨b,4,none⟩=some v4:=by simp[World.cell?,h]
theorem ce5 (h:w.heap[b]?=some (.cells (v0::v1::v2::v3::v4::v5::r).toArray t f)):w.cell? ⟨b,5,none⟩=some v5:=by simp[World.cell?,h]
theorem cq (h:w.heap[b]?=some (.cells (v0::v1::v2::v3::r).toArray t f)):w.cell? ⟨b,0,none⟩=some v0∧w.cell? ⟨b,1,none⟩=some v1∧w.cell? ⟨b,2,none⟩=some v2∧w.cell? ⟨b,3,none⟩=some v3:=⟨ce0 h,ce1 h,ce2 h,ce3 h⟩
end
namespace Stl
open Go
section
variable {P:Program}(w:World)
theorem owns_slice {base:Nat}{e:TypeId}{size:Nat}{v:Value}{n:Nat}{xs:List Value}(h:w.ownsRow base e size v n xs):∃ A c,v=.slice A n c:=by
 rcases h.2 with ⟨rfl,rfl⟩ | ⟨g,cap,cur,rfl,_⟩
 ·exact⟨none,0,rfl⟩
 ·exact⟨_,_,rfl⟩
theorem qNq (base:Nat)(t ty e:TypeId)(i:TypeInfo)(z:Value)(size bytes:Nat)(ht:P.underlying t=some (.slice e))(hi:P.info? e=some i)(hz:i.zero=some z)
  (hsize:i.size=size) (hby:i.bytes=bytes) (hzs:z.cells.size=size) (hsz:0<size)
  (v:Value) (n:Nat) (xs:List Value) (hown:w.ownsRow base e size v n xs)
  (A:Option Addr) (m c:Nat) (news:List Value) (hl:news.length=m*size) (hA:A=none→m=0∧c=0) (hnews:∀ ad,A=some ad→∀ j u,news[j]?=some u→w.cell? (ad.add j)=some u) (h1:∀ u∈news,u.oneCell'=true)
  (h63:n+m≤maxLen) (hbytes:(n+m)*bytes≤140737488355328) (hbase:base≤w.heap.size) :
  ∃ A' c' w',(Builtin.append_ #[t,t] ty #[v,.slice A m c]).run P w=.ok (.slice A' (n+m) c') w'∧w'.ownsRow base e size (.slice A' (n+m) c') (n+m) (xs++news)∧w.grownBy w' v.ownBlock ∧
   ((Value.slice A' (n+m) c').ownBlock=v.ownBlock∨(Value.slice A' (n+m) c').ownBlock=some w.heap.size):=by
 cases A with
 | none =>
  obtain⟨rfl,rfl⟩:=hA rfl;obtain rfl:news=[]:=zH (by simpa using hl);obtain⟨A',c',rfl⟩:=owns_slice w hown;refine⟨A',c',w,run_append_owned_none (P:=P) (w:=w) base t ty e i size ht hi _ n xs hown,by simpa using hown,⟨rfl,rfl,rfl,zo _,fun _ _ _=>rfl⟩,.inl rfl⟩
 | some ad =>
  obtain⟨v',w',hr,h2,h3,_,h5⟩:=run_append_own_at (P:=P) w base t ty e i z size bytes ht hi hz hsize hby hzs hsz v n xs hown ad m c news hl (hnews ad rfl) h1 h63 hbytes hbase;obtain⟨A',c',rfl⟩:=owns_slice w' h2;exact⟨A',c',w',hr,h2,h3,h5⟩
theorem qNj {o:Oper}{a:Act}{K:Act→World→Prop}{Q:Exit→Act→World→Prop}(s x:Operand)(t:TypeId)
  (ho:o.op=.call { callee:=.builtin .append,args:=#[s,x],argTypes:=#[t,t] })
  (base:Nat) (e:TypeId) (i:TypeInfo) (z:Value) (size bytes:Nat) (ht:P.underlying t=some (.slice e)) (hi:P.info? e=some i) (hz:i.zero=some z)
  (hsize:i.size=size) (hby:i.bytes=bytes) (hzs:z.cells.size=size) (hsz:0<size)
  (v:Value) (n:Nat) (xs:List Value) (hs:a.eval s=v) (hown:w.ownsRow base e size v n xs)
  (A:Option Addr) (m c:Nat) (news:List Value) (hx:a.eval x=.slice A m c) (hl:news.length=m*size) (hA:A=none→m=0∧c=0) (hnews:∀ ad,A=some ad→∀ j u,news[j]?=some u→w.cell? (ad.add j)=some u) (h1:∀ u∈news,u.oneCell'=true)
  (h63:n+m≤maxLen) (hbytes:(n+m)*bytes≤140737488355328) (hbase:base≤w.heap.size)
  (h:∀ A' c' w',w'.ownsRow base e size (.slice A' (n+m) c') (n+m) (xs++news)→w.grownBy w' v.ownBlock→((Value.slice A' (n+m) c').ownBlock=v.ownBlock∨(Value.slice A' (n+m) c').ownBlock=some w.heap.size)→K (a.put o.dst (.slice A' (n+m) c')) w'):o.wp P a w K Q:=by
 obtain⟨A',c',w',hr,h2,h3,h4⟩:=qNq (P:=P) w base t o.type e i z size bytes ht hi hz hsize hby hzs hsz v n xs hown A m c news hl hA hnews h1 h63 hbytes hbase;unfold Oper.wp execOp;simp only[ho,resolve,invoke,builtin,Sem.run_bind,Sem.run_pure,Result.andThen_ok,List.map_toArray,zV,List.map_nil,hs,hx,hr];exact h A' c' w' h2 h3 h4
theorem wpList_app {ops:Array Oper}{rest:List Oper}{o:Oper}{a:Act}{Q:Exit→Act→World→Prop}(hgd:o.guard=none)(s x:Operand)(t:TypeId)
  (ho:o.op=.call { callee:=.builtin .append,args:=#[s,x],argTypes:=#[t,t] })
  (base:Nat) (e:TypeId) (i:TypeInfo) (z:Value) (size bytes:Nat) (ht:P.underlying t=some (.slice e)) (hi:P.info? e=some i) (hz:i.zero=some z)
  (hsize:i.size=size) (hby:i.bytes=bytes) (hzs:z.cells.size=size) (hsz:0<size)
  (v:Value) (n:Nat) (xs:List Value) (hs:a.eval s=v) (hown:w.ownsRow base e size v n xs)
  (A:Option Addr) (m c:Nat) (news:List Value) (hx:a.eval x=.slice A m c) (hl:news.length=m*size) (hA:A=none→m=0∧c=0) (hnews:∀ ad,A=some ad→∀ j u,news[j]?=some u→w.cell? (ad.add j)=some u) (h1:∀ u∈news,u.oneCell'=true)
  (h63:n+m≤maxLen) (hbytes:(n+m)*bytes≤140737488355328) (hbase:base≤w.heap.size)
  (h:∀ A' c' w',w'.ownsRow base e size (.slice A' (n+m) c') (n+m) (xs++news)→w.grownBy w' v.ownBlock→((Value.slice A' (n+m) c').ownBlock=v.ownBlock∨(Value.slice A' (n+m) c').ownBlock=some w.heap.size)→wpList P ops Q rest (a.put o.dst (.slice A' (n+m) c')) w'):wpList P ops Q (o::rest) a w :=
 wpList_plain hgd fun _ hK=>qNj w s x t ho base e i z size bytes ht hi hz hsize hby hzs hsz v n xs hs hown A m c news hx hl hA hnews h1 h63 hbytes hbase fun A' c' w' h2 h3 h4=>hK _ _ (h A' c' w' h2 h3 h4)
theorem step_app {ops:Array Oper}{o:Oper}{a:Act}{K:Act→World→Prop}{Q:Exit→Act→World→Prop}{E:Prop}(hgd:o.guard=none)(s x:Operand)(t:TypeId)
  (ho:o.op=.call { callee:=.builtin .append,args:=#[s,x],argTypes:=#[t,t] })
  (base:Nat) (e:TypeId) (i:TypeInfo) (z:Value) (size bytes:Nat) (ht:P.underlying t=some (.slice e)) (hi:P.info? e=some i) (hz:i.zero=some z)
  (hsize:i.size=size) (hby:i.bytes=bytes) (hzs:z.cells.size=size) (hsz:0<size)
  (v:Value) (n:Nat) (xs:List Value) (hs:a.eval s=v) (hown:w.ownsRow base e size v n xs)
  (A:Option Addr) (m c:Nat) (news:List Value) (hx:a.eval x=.slice A m c) (hl:news.length=m*size) (hA:A=none→m=0∧c=0) (hnews:∀ ad,A=some ad→∀ j u,news[j]?=some u→w.cell? (ad.add j)=some u) (h1:∀ u∈news,u.oneCell'=true)
  (h63:n+m≤maxLen) (hbytes:(n+m)*bytes≤140737488355328) (hbase:base≤w.heap.size)
  (h:∀ A' c' w',w'.ownsRow base e size (.slice A' (n+m) c') (n+m) (xs++news)→w.grownBy w' v.ownBlock→((Value.slice A' (n+m) c').ownBlock=v.ownBlock∨(Value.slice A' (n+m) c').ownBlock=some w.heap.size)→K (a.put o.dst (.slice A' (n+m) c')) w') :
  if Region.wanted o (yielded ops a.tmps)=true then Oper.wp P o a w K Q else E:=by
 have hw:Region.wanted o (yielded ops a.tmps)=true:=by simp[Region.wanted,hgd]
 rw[zM1 hw];exact qNj w s x t ho base e i z size bytes ht hi hz hsize hby hzs hsz v n xs hs hown A m c news hx hl hA hnews h1 h63 hbytes hbase h
end
end Stl
