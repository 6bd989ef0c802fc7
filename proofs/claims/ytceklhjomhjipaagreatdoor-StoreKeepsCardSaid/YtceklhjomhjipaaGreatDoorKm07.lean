/- Texts of this claim, merged: SpacePure, Mem, MapIs, MapWalk, RepsA. -/
import Derived.Maps.RangeWalk
import Derived.Sort.EncStr
import Derived.Test.YtceklhjomhjipaaGreatDoorKm06
set_option maxHeartbeats 16000000
set_option maxRecDepth 1000000
set_option linter.all false
namespace Stl
def qBk:Nat→List Bool→List Nat
 | _,[]=>[]
 | i,true::r=>qBk (i+1) r
 | i,false::r=>i::qBk (i+1) r
def qGi:Nat→List Bool→List Nat
 | _,[]=>[]
 | i,false::r=>qGi (i+1) r
 | i,true::r=>i::qGi (i+1) r
def qHM (U:List Bool):List Nat:=qBk 0 U
def ons (U:List Bool):List Nat:=qGi 0 U
def qBn (U:List Bool) (v:Bool):List Nat→List Bool
 | []=>U
 | k::r=>qBn (U.set k v) v r
theorem qD4:∀ (a b:List Bool) (i:Nat),qGi i (a++b)=qGi i a++qGi (i+a.length) b
 | [],b,i=>by simp [qGi]
 | true::a,b,i=>by simp [qGi,qD4 a b (i+1),Nat.add_assoc,Nat.add_comm 1]
 | false::a,b,i=>by simp [qGi,qD4 a b (i+1),Nat.add_assoc,Nat.add_comm 1]
theorem qB5:∀ (a b:List Bool) (i:Nat),qBk i (a++b)=qBk i a++qBk (i+a.length) b
 | [],b,i=>by simp [qBk]
 | true::a,b,i=>by simp [qBk,qB5 a b (i+1),Nat.add_assoc,Nat.add_comm 1]
 | false::a,b,i=>by simp [qBk,qB5 a b (i+1),Nat.add_assoc,Nat.add_comm 1]
theorem qBR:∀ (U:List Bool) (i:Nat),(qGi i U).length+(qBk i U).length=U.length
 | [],_=>rfl
 | true::r,i=>by have:=qBR r (i+1);simp [qGi,qBk];omega
 | false::r,i=>by have:=qBR r (i+1);simp [qGi,qBk];omega
theorem qBi:∀ (ks:List Nat) (U:List Bool) (v:Bool),(qBn U v ks).length=U.length
 | [],_,_=>rfl
 | k::r,U,v=>by rw [qBn,qBi r];simp
theorem qEC:∀ (ks:List Nat) (U:List Bool) (v:Bool) (j:Nat),j<U.length→(qBn U v ks)[j]?=if j∈ks then some v else U[j]?
 | [],U,v,j,_=>by simp [qBn]
 | k::r,U,v,j,hj=>by
  rw [qBn,qEC r (U.set k v) v j (by simpa using hj)]
  by_cases h1:j∈r
  ·simp [h1]
  ·by_cases h2:j=k
   ·subst h2
    simp [h1,hj]
   ·simp [h1,h2,List.getElem?_set,Ne.symm h2]
def qAX (T:Tab):List Bool:=(List.range T.disk.length).map T.isUsed
theorem qAq (T:Tab):(qAX T).length=T.disk.length:=by simp [qAX]
theorem qCT {T:Tab} {k:Nat} (h:k<T.disk.length):(qAX T)[k]?=some (T.isUsed k):=by simp [qAX,h]
theorem qGn (p:Nat→Bool):∀ (n i:Nat),qBk i ((List.range' i n).map p)=(List.range' i n).filter fun k=>!p k
 | 0,_=>rfl
 | n+1,i=>by
  rw [List.range'_succ,zV,zI]
  cases h:p i<;>simp [qBk,h,qGn p n (i+1)]
theorem qCU (T:Tab):qHM (qAX T)=T.free:=by
 unfold qHM qAX Tab.free
 rw [List.range_eq_range']
 exact qGn T.isUsed _ 0
theorem qIl {U V:List Bool} (hl:U.length=V.length) (h:∀ j,j<U.length→U[j]?=V[j]?):U=V:=by
 apply List.ext_getElem?
 intro j
 rcases zv j U.length with h1 | h1
 ·exact h j h1
 ·rw [List.getElem?_eq_none h1,List.getElem?_eq_none (by omega)]
theorem qIA {T T':Tab} (h:∀ m,(T'.at_ m).map (·.blocks)=(T.at_ m).map (·.blocks)) (k:Nat):T'.isUsed k=T.isUsed k:=by
 have half:∀ {A B:Tab},(∀ m,(A.at_ m).map (·.blocks)=(B.at_ m).map (·.blocks))→A.isUsed k=true→B.isUsed k=true:=by
  intro A B h hA
  obtain ⟨n,x,h1,h2⟩:=qAr.1 hA
  have h3:=h n
  rw [h1] at h3
  cases hb:B.at_ n with
  | none=>rw [hb] at h3;cases h3
  | some y =>
   rw [hb] at h3
   simp only [zA1,zB1] at h3
   exact qAr.2 ⟨n,y,hb,by rw [← h3];exact h2⟩
 cases h1:T.isUsed k with
 | true=>exact half (fun m=>(h m).symm) h1
 | false =>
  cases h2:T'.isUsed k with
  | false=>rfl
  | true=>rw [half h h2] at h1;cases h1
theorem qFl {T T':Tab} (hd:T'.disk.length=T.disk.length) (h:∀ m,(T'.at_ m).map (·.blocks)=(T.at_ m).map (·.blocks)):qAX T'=qAX T:=by
 unfold qAX
 rw [hd]
 exact List.map_congr_left fun k _=>qIA h k
theorem qJE {T T':Tab} {data:Bytes} {exec:Bool} {n:Nat} (h:T.make data exec=.ok (n,T')):qAX T'=qBn (qAX T) true ((qHM (qAX T)).take (qAA data.length)):=by
 have hat:=qDS h
 have hwas:=qD7 h
 obtain ⟨_,_,_,e⟩:=qBd h
 have hdl:T'.disk.length=T.disk.length:=by rw [e];exact qAJ _ _ _
 rw [qCU]
 apply qIl (by rw [qBi,qAq,qAq,hdl])
 intro j hj
 rw [qAq,hdl] at hj
 rw [qEC _ _ _ _ (by rw [qAq];exact hj),qCT (by rw [hdl];exact hj),qCT hj]
 by_cases hm:j∈T.free.take (qAA data.length)
 ·rw [zM1 hm]
  exact congrArg some (qAr.2 ⟨n,_,by rw [hat,zM1 rfl],hm⟩)
 ·rw [zL1 hm]
  congr 1
  cases hu:T.isUsed j with
  | true =>
   obtain ⟨m,x,h1,h2⟩:=qAr.1 hu
   refine qAr.2 ⟨m,x,?_,h2⟩
   rw [hat,zL1 (fun e=>by subst e;rw [hwas] at h1;cases h1)]
   exact h1
  | false =>
   cases hu2:T'.isUsed j with
   | false=>rfl
   | true =>
    obtain ⟨m,x,h1,h2⟩:=qAr.1 hu2
    rw [hat] at h1
    by_cases hmn:m=n
    ·rw [zM1 hmn] at h1
     cases h1
     exact absurd h2 hm
    ·rw [zL1 hmn] at h1
     rw [qAr.2 ⟨m,x,h1,h2⟩] at hu
     cases hu
theorem qJN {T:Tab} {n:Nat} {x:Ino} (ht:qBl T) (hx:T.at_ n=some x):qAX { T with l:=T.l.set n none }=qBn (qAX T) false x.blocks:=by
 have hn:=qDR hx
 have hat:∀ m,Tab.at_ { T with l:=T.l.set n none } m=if m=n then none else T.at_ m:=fun m=>qHf T.l n none hn m
 apply qIl (by rw [qBi,qAq,qAq])
 intro j hj
 rw [qAq] at hj
 have hj':j<T.disk.length:=hj
 rw [qEC _ _ _ _ (by rw [qAq];exact hj'),qCT hj,qCT hj']
 by_cases hm:j∈x.blocks
 ·rw [zM1 hm]
  congr 1
  cases hu:Tab.isUsed { T with l:=T.l.set n none } j with
  | false=>rfl
  | true =>
   obtain ⟨m,y,h1,h2⟩:=qAr.1 hu
   rw [hat] at h1
   by_cases hmn:m=n
   ·rw [zM1 hmn] at h1;cases h1
   ·rw [zL1 hmn] at h1
    exact absurd (ht.apart m n y x j h1 hx h2 hm) hmn
 ·rw [zL1 hm]
  congr 1
  cases hu:T.isUsed j with
  | true =>
   obtain ⟨m,y,h1,h2⟩:=qAr.1 hu
   have hmn:m≠n:=fun e=>by subst e;rw [hx] at h1;cases h1;exact hm h2
   exact qAr.2 ⟨m,y,by rw [hat,zL1 hmn];exact h1,h2⟩
  | false =>
   cases hu2:Tab.isUsed { T with l:=T.l.set n none } j with
   | false=>rfl
   | true =>
    obtain ⟨m,y,h1,h2⟩:=qAr.1 hu2
    rw [hat] at h1
    by_cases hmn:m=n
    ·rw [zM1 hmn] at h1;cases h1
    ·rw [zL1 hmn] at h1
     rw [qAr.2 ⟨m,y,h1,h2⟩] at hu
     cases hu
theorem qEK (x:UInt32):BitVec.ofInt 32 (x.toNat:Int)=x.toBitVec:=by
 rw [BitVec.ofInt_natCast]
 simp
theorem u32_xor (x y:UInt32):(BitVec.ofInt 32 (x.toNat:Int) ^^^ BitVec.ofInt 32 (y.toNat:Int)).toNat=(x ^^^ y).toNat:=by
 rw [qEK,qEK];rfl
theorem u32_and (x y:UInt32):(BitVec.ofInt 32 (x.toNat:Int) &&& BitVec.ofInt 32 (y.toNat:Int)).toNat=(x &&& y).toNat:=by
 rw [qEK,qEK];rfl
theorem qKF (n:Nat) (h:n<4294967296):Go.IntKind.wrap .u32 (n:Int)=n:=by
 simp [Go.IntKind.wrap,Go.IntKind.bits,Go.IntKind.signed]
 omega
end Stl
namespace Stl
open Go Go.RowKit
inductive Col where
 | free | ro | dead | sto | stoL | roots | dirs | dirsMap | files (k:Nat) | tab | tabMap | stat (n:Nat) | space | used | disk | diskL | wait | tape | tapeL
 deriving DecidableEq
structure Ext (w w2:World) (c c2:Nat→Col) (S:Col→Bool):Prop where
 os:w2.os=w.os
 tape:w2.tape=w.tape
 output:w2.output=w.output
 size:w.heap.size≤w2.heap.size
 keep:∀ b,b<w.heap.size→S (c b)=false→w2.heap[b]?=w.heap[b]?∧c2 b=c b
def S0:Col→Bool:=fun _=>false
def S1 (x:Col):Col→Bool:=fun y=>decide (y=x)
theorem qBm {x y:Col} (h:y≠x):S1 x y=false:=by simp [S1,h]
theorem qAE {S:Col→Bool} {y:Col} (h:S y=true):∀ x,S x=false→S1 y x=false:=fun x hx=>qBm (fun e=>by subst e;rw [h] at hx;cases hx)
section
variable {w w2 w3:World} {c c2 c3:Nat→Col} {S S':Col→Bool}
theorem Ext.refl (w:World) (c:Nat→Col) (S:Col→Bool):Ext w w c c S:=⟨rfl,rfl,rfl,zq _,fun _ _ _=>⟨rfl,rfl⟩⟩
theorem Ext.mono (h:Ext w w2 c c2 S) (hS:∀ x,S' x=false→S x=false):Ext w w2 c c2 S':=⟨h.os,h.tape,h.output,h.size,fun b hb hs=>h.keep b hb (hS _ hs)⟩
theorem Ext.trans (h:Ext w w2 c c2 S) (k:Ext w2 w3 c2 c3 S):Ext w w3 c c3 S :=
 ⟨k.os.trans h.os,k.tape.trans h.tape,k.output.trans h.output,zr h.size k.size,fun b hb hs=>by
  obtain ⟨h1,h2⟩:=h.keep b hb hs
  obtain ⟨k1,k2⟩:=k.keep b (zu hb h.size) (by rw [h2];exact hs)
  exact ⟨k1.trans h1,k2.trans h2⟩⟩
theorem Ext.then (h:Ext w w2 c c2 S) (k:Ext w2 w3 c2 c3 S') (hS:∀ x,S x=false→S' x=false):Ext w w3 c c3 S:=h.trans (k.mono hS)
theorem Ext.of_below (h:Below w.heap.size w w2) (c:Nat→Col) (S:Col→Bool):Ext w w2 c c S:=⟨h.os,h.tape,h.output,h.size,fun b hb _=>⟨h.block b hb,rfl⟩⟩
theorem Ext.drew (h:Ext w w2 c c2 S):Ext w w2.drew c c2 S:=⟨h.os,h.tape,h.output,h.size,h.keep⟩
theorem Ext.alloc (h:Ext w w2 c c2 S) (o:Obj):Ext w (w2.alloc o) c c2 S :=
 ⟨h.os,h.tape,h.output,zr h.size (by simp),fun b hb hs=>⟨(Below.heap_alloc _ _ _ (zu hb h.size)).trans (h.keep b hb hs).1,(h.keep b hb hs).2⟩⟩
theorem Ext.setCell (h:Ext w w2 c c2 S) {a:Addr} (ha:a.block<w.heap.size→S (c a.block)=true) (u:Value):Ext w (w2.setCell a u) c c2 S :=
 ⟨h.os,h.tape,h.output,by simpa [World.setCell] using h.size,fun b hb hs=>⟨(zA _ _ _ _ (fun e=>by subst e;rw [ha hb] at hs;cases hs)).trans (h.keep b hb hs).1,(h.keep b hb hs).2⟩⟩
theorem Ext.grown {row:Option Nat} (h:Ext w w2 c c2 S) (hg:w2.grownBy w3 row) (hr:∀ k,row=some k→k<w.heap.size→S (c k)=true):Ext w w3 c c2 S :=
 ⟨hg.os.trans h.os,hg.tape.trans h.tape,hg.output.trans h.output,zr h.size hg.size,
  fun b hb hs=>⟨(hg.block b (zu hb h.size) (fun e=>by rw [hr b e.symm hb] at hs;cases hs)).trans (h.keep b hb hs).1,(h.keep b hb hs).2⟩⟩
theorem Ext.recolor (h:Ext w w2 c c2 S) (hc:∀ b,b<w.heap.size→S (c b)=false→c3 b=c2 b):Ext w w2 c c3 S :=
 ⟨h.os,h.tape,h.output,h.size,fun b hb hs=>⟨(h.keep b hb hs).1,(hc b hb hs).trans (h.keep b hb hs).2⟩⟩
theorem Ext.below (h:Ext w w2 c c2 S) {B:Nat} (hB:B≤w.heap.size) (hlow:∀ b,b<B→S (c b)=false):Below B w w2 :=
 ⟨h.os,h.tape,h.output,h.size,fun b hb=>(h.keep b (zu hb hB) (hlow b hb)).1⟩
def qAs (c:Nat→Col) (b:Nat) (x:Col):Nat→Col:=fun k=>if k=b then x else c k
theorem qAm (c:Nat→Col) (b:Nat) (x:Col):qAs c b x b=x:=by simp [qAs]
theorem qCX {b k:Nat} {x:Col} (h:k≠b):qAs c b x k=c k:=by simp [qAs,h]
theorem qAf {b k n:Nat} {x:Col} (h:k<n) (hb:n≤b):qAs c b x k=c k:=qCX (by omega)
theorem Ext.made (w:World) (c:Nat→Col) (S:Col→Bool) (o:Obj) (x:Col):Ext w (w.alloc o) c (qAs c w.heap.size x) S :=
 ((Ext.refl w c S).alloc o).recolor (fun b hb _=>qAf hb (zq _))
theorem qFH {a b:Nat} {x y:Col} (ha:c a=x) (hb:c b=y) (h:x≠y):a≠b:=fun e=>h (by rw [← ha,← hb,e])
theorem qAa {b:Nat} {o:Obj} (h:w.heap[b]?=some o):b<w.heap.size:=(Array.getElem?_eq_some_iff.1 h).1
theorem Ext.kept (h:Ext w w2 c c2 S) {b:Nat} {o:Obj} {x:Col} (hb:w.heap[b]?=some o) (hc:c b=x) (hS:S x=false):w2.heap[b]?=some o∧c2 b=x:=by
 obtain ⟨h1,h2⟩:=h.keep b (qAa hb) (by rw [hc];exact hS)
 exact ⟨h1.trans hb,h2.trans hc⟩
theorem Ext.col (h:Ext w w2 c c2 S) {b:Nat} {x:Col} (hb:b<w.heap.size) (hc:c b=x) (hS:S x=false):c2 b=x:=(h.keep b hb (by rw [hc];exact hS)).2.trans hc
theorem Ext.row (h:Ext w w2 c c2 S) {base:Nat} {e:TypeId} {size:Nat} {v:Value} {n:Nat} {xs:List Value} {x:Col} (hr:w.ownsRow base e size v n xs) (hc:∀ k,v.ownBlock=some k→c k=x) (hS:S x=false) :
  w2.ownsRow base e size v n xs∧∀ k,v.ownBlock=some k→c2 k=x:=by
 refine ⟨?_,fun k hk=>h.col (hr.lt k hk).2 (hc k hk) hS⟩
 obtain ⟨h1,h2⟩:=hr
 refine ⟨h1,?_⟩
 rcases h2 with h2 | ⟨g,cap,cur,rfl,hb,hg,h3⟩
 ·exact .inl h2
 ·exact .inr ⟨g,cap,cur,rfl,hb,(h.kept hg (hc g rfl) hS).1,h3⟩
end
theorem qMG {w:World} {b:Nat} {cs:Array Value} {t:TypeId} {fr:Nat×Nat} (h:w.heap[b]?=some (.cells cs t fr)) (i:Nat):w.cell? ⟨b,i,none⟩=cs[i]?:=by
 simp [World.cell?,h]
theorem qAb {w:World} {b:Nat} {cs:Array Value} {t:TypeId} (h:w.heap[b]?=some (.cells cs t (0,0))) (i:Nat):w.frozen? ⟨b,i,none⟩=false:=by
 simp [World.frozen?,h]
theorem qAd {w:World} {b:Nat} {cs:Array Value} {t:TypeId} {fr:Nat×Nat} (h:w.heap[b]?=some (.cells cs t fr)) (i:Nat) (u:Value):(w.setCell ⟨b,i,none⟩ u).heap[b]?=some (.cells (cs.setIfInBounds i u) t fr):=by
 simp [World.setCell,Array.getElem?_modify,h]
theorem Ext.cell {w:World} {c:Nat→Col} {b:Nat} {cs:Array Value} {t:TypeId} {fr:Nat×Nat} {x:Col} (h:w.heap[b]?=some (.cells cs t fr)) (hc:c b=x) (i:Nat) (u:Value) :
  (w.setCell ⟨b,i,none⟩ u).heap[b]?=some (.cells (cs.setIfInBounds i u) t fr)∧Ext w (w.setCell ⟨b,i,none⟩ u) c c (S1 x) :=
 ⟨qAd h i u,(Ext.refl w c (S1 x)).setCell (fun _=>by rw [hc];simp [S1]) u⟩
end Stl
namespace Stl
open Go Go.Maps
def qCk:Value→Option (DataW Value×List MemPlace):=fun v=>some (.held v,[])
structure MapIs {α:Type} (key:α→Lit) (D:DataW Value) (f:α→Option Value):Prop where
 map:IsMap D
 at_:∀ k v,f k=some v→∀ z,D.atKey (key k) z=.held v
 none_:∀ k,f k=none→has D (key k)=false
 has_:∀ l,has D l=true→∃ k v,l=key k∧f k=some v
section
variable {α:Type} {key:α→Lit} {D:DataW Value} {f:α→Option Value}
theorem MapIs.empty:MapIs key (.map []:DataW Value) (fun _:α=>none) :=
 ⟨isMap_empty,fun k v h=>(by cases h),fun k _=>rfl,fun l h=>(by cases h)⟩
theorem MapIs.has_at (h:MapIs key D f) {k:α} {v:Value} (hk:f k=some v):has D (key k)=true:=has_true_of_atKey (h.at_ k v hk)
theorem MapIs.has_eq (h:MapIs key D f) (k:α):has D (key k)=(f k).isSome:=by
 cases hk:f k with
 | none=>simpa using h.none_ k hk
 | some v=>simpa using h.has_at hk
theorem MapIs.zero (h:MapIs key D f) {k:α} (hk:f k=none) (z:DataW Value):D.atKey (key k) z=z:=atKey_of_not_has (h.none_ k hk) z
theorem MapIs.look (h:MapIs key D f) (k:α) (z:Value):D.atKey (key k) (.held z)=.held ((f k).getD z):=by
 cases hk:f k with
 | none=>simpa using h.zero hk _
 | some v=>simpa using h.at_ k v hk _
theorem MapIs.put [DecidableEq α] (h:MapIs key D f) (inj:∀ a b,key a=key b→a=b) (k:α) (hk:WideAt.IsKeyLit (key k)) (v:Value):MapIs key (D.put (key k) (.held v)) (fun j=>if j=k then some v else f j):=by
 refine ⟨h.map.put _ _,?_,?_,?_⟩
 ·intro j u hj z
  by_cases e:j=k
  ·subst e
   rw [zM1 rfl] at hj
   cases hj
   exact atKey_put_same h.map hk _ _
  ·rw [zL1 e] at hj
   rw [atKey_put_other (fun h'=>e (inj _ _ h'))]
   exact h.at_ j u hj z
 ·intro j hj
  by_cases e:j=k
  ·rw [zM1 e] at hj;cases hj
  ·rw [zL1 e] at hj
   rw [has_put_other (fun h'=>e (inj _ _ h'))]
   exact h.none_ j hj
 ·intro l hl
  by_cases e:l=key k
  ·exact ⟨k,v,e,by simp⟩
  ·rw [has_put_other e] at hl
   obtain ⟨j,u,rfl,hj⟩:=h.has_ l hl
   exact ⟨j,u,rfl,by rw [zL1 (fun h'=>e (by rw [h']))];exact hj⟩
theorem MapIs.del [DecidableEq α] (h:MapIs key D f) (inj:∀ a b,key a=key b→a=b) (k:α):MapIs key (D.del (key k)) (fun j=>if j=k then none else f j):=by
 refine ⟨h.map.del _,?_,?_,?_⟩
 ·intro j u hj z
  by_cases e:j=k
  ·rw [zM1 e] at hj;cases hj
  ·rw [zL1 e] at hj
   rw [atKey_del_other (fun h'=>e (inj _ _ h'))]
   exact h.at_ j u hj z
 ·intro j hj
  by_cases e:j=k
  ·subst e;exact has_del_same
  ·rw [zL1 e] at hj
   rw [has_del_other (fun h'=>e (inj _ _ h'))]
   exact h.none_ j hj
 ·intro l hl
  by_cases e:l=key k
  ·rw [e,has_del_same] at hl;cases hl
  ·rw [has_del_other e] at hl
   obtain ⟨j,u,rfl,hj⟩:=h.has_ l hl
   exact ⟨j,u,rfl,by rw [zL1 (fun h'=>e (by rw [h']))];exact hj⟩
theorem MapIs.congr {g:α→Option Value} (h:MapIs key D f) (e:∀ k,g k=f k):MapIs key D g:=by
 obtain rfl:g=f:=funext e
 exact h
end
def qKE (k:Nat):Lit:=.int .i64 k
def qLE (s:List UInt8):Lit:=.string s
theorem qO5 (a b:Nat) (h:qKE a=qKE b):a=b:=by
 simp only [qKE,Lit.int.injEq,true_and] at h
 exact Int.ofNat.inj h
theorem qO7 (a b:List UInt8) (h:qLE a=qLE b):a=b:=by
 simpa [qLE] using h
structure qEX {α:Type} (P:Program) (k:TypeId) (mk:α→Value) (key:α→Lit) (ok:α→Prop):Prop where
 keyed:Keyed P k
 of:∀ x,ok x→keyOf P k (mk x)=some (key x)
 inj:∀ a b,key a=key b→a=b
def zzMapAt {α:Type} (P:Program) (k:TypeId) (key:α→Lit) (w:World) (b n:Nat) (f:α→Option Value):Prop:=∃ D:DataW Value,w.ownsMap P k qCk b n D∧MapIs key D f
def RangeAt {α:Type} (P:Program) (k:TypeId) (key:α→Lit) (w:World) (b r n:Nat) (f:α→Option Value) (left:α→Bool) (cnt:Nat):Prop :=
 ∃ (D:DataW Value) (L:Lit→Bool),w.ranges P k qCk b r n D L cnt∧MapIs key D f∧∀ x,L (key x)=left x
theorem qFr:∀ (a b:List Lit),a.Pairwise (·≠·)→(∀ x∈a,x∈b)→a.length≤b.length
 | [],_,_,_=>zx _
 | x::r,b,hp,h=>by
  obtain ⟨h1,h2⟩:=zj.1 hp
  have hx:=h x (by simp)
  obtain ⟨l,m,rfl⟩:=List.append_of_mem hx
  have:=qFr r (l++m) h2 (fun y hy=>by
   have:=h y (by simp [hy])
   simp only [zX,zY] at this ⊢
   rcases this with h3 | h3 | h3
   ·exact .inl h3
   ·exact absurd h3.symm (h1 y hy)
   ·exact .inr h3)
  simp at this ⊢
  omega
section
variable {α:Type} {P:Program} {k e t:TypeId} {mk:α→Value} {key:α→Lit} {ok:α→Prop} {w:World} {b n:Nat} {f:α→Option Value}
theorem zzMapAt.lt (h:zzMapAt P k key w b n f):b<w.heap.size:=by obtain ⟨D,h1,_⟩:=h;exact h1.lt
theorem zzMapAt.mono (h:zzMapAt P k key w b n f) {m:Nat} (hm:n≤m):zzMapAt P k key w b m f:=by obtain ⟨D,h1,h2⟩:=h;exact ⟨D,h1.mono hm,h2⟩
theorem zzMapAt.congr {g:α→Option Value} (h:zzMapAt P k key w b n f) (e:∀ x,g x=f x):zzMapAt P k key w b n g:=by obtain ⟨D,h1,h2⟩:=h;exact ⟨D,h1,h2.congr e⟩
theorem zzMapAt.kept {w':World} {row:Option Nat} (h:zzMapAt P k key w b n f) (hg:w.grownBy w' row) (hne:some b≠row):zzMapAt P k key w' b n f:=by obtain ⟨D,h1,h2⟩:=h;exact ⟨D,h1.kept hg hne,h2⟩
theorem zzMapAt.of_block {w':World} (h:zzMapAt P k key w b n f) (hb:w'.heap[b]?=w.heap[b]?):zzMapAt P k key w' b n f:=by
 obtain ⟨D,⟨es,clock,h0,F,hs,hD⟩,h2⟩:=h
 exact ⟨D,⟨es,clock,hb.trans h0,F,hs,hD⟩,h2⟩
theorem zzMapAt.made (w:World) (P:Program) (k:TypeId) (key:α→Lit):zzMapAt P k key (w.alloc (.map #[] 0)) w.heap.size 0 (fun _=>none):=⟨_,World.ownsMap_made w P k qCk,MapIs.empty⟩
theorem zzMapAt.ext {w':World} {c c2:Nat→Col} {S:Col→Bool} (h:zzMapAt P k key w b n f) (e:Ext w w' c c2 S) {x:Col} (hc:c b=x) (hS:S x=false):zzMapAt P k key w' b n f :=
 h.of_block (e.keep b h.lt (by rw [hc];exact hS)).1
theorem zzMapAt.tight (h:zzMapAt P k key w b n f) (K:Keyed P k) (l:List α) (hl:∀ x,(f x).isSome=true→x∈l):zzMapAt P k key w b l.length f:=by
 obtain ⟨D,h1,h2⟩:=h
 obtain ⟨es',hD,hp,hk⟩:=h1.entries K
 obtain ⟨es,clock,hb,F,hs,hE⟩:=h1
 refine ⟨D,⟨es,clock,hb,F,?_,hE⟩,h2⟩
 have e1:es.size=es'.length:=by
  rw [hE] at hD
  simp only [DataW.map.injEq] at hD
  rw [← hD,length_sorted]
  simp
 rw [e1]
 have:=qFr (es'.map (·.1)) (l.map key) (List.pairwise_map.2 hp) (fun x hx=>by
  obtain ⟨p,hp,rfl⟩:=ze.1 hx
  have hh:has D p.1=true:=by
   rw [hD,has_eq]
   exact List.any_eq_true.2 ⟨p,hp,WideAt.sameKey_self (hk p hp)⟩
  obtain ⟨y,v,h3,h4⟩:=h2.has_ _ hh
  rw [h3]
  exact ze.2 ⟨y,hl y (by rw [h4];rfl),rfl⟩)
 simpa using this
theorem zzMapAt.getOk (h:zzMapAt P k key w b n f) (K:qEX P k mk key ok) (ht:P.underlying t=some (.map k e)) {z:Value} (hz:(zeroValue e).run P w=.ok z w) {i:α} (hi:ok i) :
  (Instr.lookup t (.map (some b)) (mk i) true).run P w=.ok (.tuple #[(f i).getD z,.bool (f i).isSome]) w:=by
 obtain ⟨D,h1,h2⟩:=h
 obtain ⟨v,ps,hr,hv⟩:=h1.look_ok K.keyed ht hz (zd:=.held z) (zp:=[]) rfl (K.of i hi)
 rw [h2.look i z] at hv
 simp only [qCk,zB1,Prod.mk.injEq,DataW.held.injEq] at hv
 rw [hr,hv.1,h2.has_eq i]
theorem zzMapAt.get (h:zzMapAt P k key w b n f) (K:qEX P k mk key ok) (ht:P.underlying t=some (.map k e)) {z:Value} (hz:(zeroValue e).run P w=.ok z w) {i:α} (hi:ok i) :
  (Instr.lookup t (.map (some b)) (mk i) false).run P w=.ok ((f i).getD z) w:=by
 obtain ⟨D,h1,h2⟩:=h
 obtain ⟨v,ps,hr,hv⟩:=h1.lookup K.keyed ht hz (zd:=.held z) (zp:=[]) rfl (K.of i hi)
 rw [h2.look i z] at hv
 simp only [qCk,zB1,Prod.mk.injEq,DataW.held.injEq] at hv
 rw [hr,hv.1]
theorem zzMapAt.put [DecidableEq α] (h:zzMapAt P k key w b n f) (K:qEX P k mk key ok) (ht:P.underlying t=some (.map k e)) (hn:n<maxLen) {i:α} (hi:ok i) (v:Value) :
  ∃ w',(Instr.mapUpdate t (.map (some b)) (mk i) v).run P w=.ok () w'∧zzMapAt P k key w' b (n+1) (fun j=>if j=i then some v else f j)∧w.mapTurned w' b:=by
 obtain ⟨D,h1,h2⟩:=h
 obtain ⟨w',hr,h3,h4⟩:=h1.store K.keyed ht hn (K.of i hi) (val:=v) (d:=.held v) (ps:=[]) rfl
 exact ⟨w',hr,⟨_,h3,h2.put K.inj i (K.keyed.key (K.of i hi)) v⟩,h4⟩
theorem zzMapAt.del [DecidableEq α] (h:zzMapAt P k key w b n f) (K:qEX P k mk key ok) (ht:P.underlying t=some (.map k e)) {i:α} (hi:ok i) (ty:TypeId) :
  ∃ w',(Builtin.delete_ #[t,k] ty #[.map (some b),mk i]).run P w=.ok (.tuple #[]) w'∧zzMapAt P k key w' b n (fun j=>if j=i then none else f j)∧w.mapTurned w' b:=by
 obtain ⟨D,h1,h2⟩:=h
 obtain ⟨w',hr,h3,h4⟩:=h1.drop K.keyed ht (K.of i hi) ty
 exact ⟨w',hr,⟨_,h3,h2.del K.inj i⟩,h4⟩
theorem qBf [DecidableEq α] {ops:Array Oper} {rest:List Oper} {o:Oper} {a:Act} {Q:Exit→Act→World→Prop} (hg:o.guard=none) (m x y:Operand) (t e:TypeId) (hop:o.op=Op.mapUpdate t m x y) (K:qEX P k mk key ok) (ht:P.underlying t=some (.map k e))
  (hm:a.eval m=.map (some b)) (hown:zzMapAt P k key w b n f) (hn:n<maxLen) (i:α) (hi:ok i) (hx:a.eval x=mk i) (v:Value) (hv:a.eval y=v)
  (hK:∀ w',zzMapAt P k key w' b (n+1) (fun j=>if j=i then some v else f j)→w.mapTurned w' b→wpList P ops Q rest (a.put o.dst undef) w'):wpList P ops Q (o::rest) a w:=by
 refine wpList_plain hg fun K' hK'=>?_
 obtain ⟨w',hrun,r1,r2⟩:=hown.put K ht hn hi v
 unfold Oper.wp
 simp [execOp,hop,hm,hx,hv,hrun,Result.andThen]
 exact hK' _ _ (hK w' r1 r2)
theorem qEw [DecidableEq α] {ops:Array Oper} {rest:List Oper} {o:Oper} {a:Act} {Q:Exit→Act→World→Prop} (hg:o.guard=none) (m x:Operand) (t e:TypeId) (hop:o.op=Op.call { callee:=Callee.builtin Builtin.delete,args:=#[m,x],argTypes:=#[t,k] }) (K:qEX P k mk key ok) (ht:P.underlying t=some (.map k e))
  (hm:a.eval m=.map (some b)) (hown:zzMapAt P k key w b n f) (i:α) (hi:ok i) (hx:a.eval x=mk i)
  (hK:∀ w',zzMapAt P k key w' b n (fun j=>if j=i then none else f j)→w.mapTurned w' b→wpList P ops Q rest (a.put o.dst (.tuple #[])) w'):wpList P ops Q (o::rest) a w:=by
 refine wpList_plain hg fun K' hK'=>?_
 obtain ⟨w',hrun,r1,r2⟩:=hown.del K ht hi o.type
 unfold Oper.wp
 simp [execOp,hop,resolve,invoke,builtin,hm,hx,hrun,Result.andThen]
 exact hK' _ _ (hK w' r1 r2)
theorem Ext.turned {w w':World} {c:Nat→Col} {b:Nat} {x:Col} (h:w.mapTurned w' b) (hc:c b=x):Ext w w' c c (S1 x) :=
 (Ext.refl w c (S1 x)).grown h.grown (fun k hk _=>by injection hk with hk;rw [← hk,hc];simp [S1])
theorem qOa {D:DataW Value} {L:Lit→Bool} {r cnt:Nat} (h:w.ranges P k qCk b r n D L cnt) (K:Keyed P k) {l:Lit} (hl:L l=true):has D l=true:=by
 obtain ⟨es,clock,since,seen,c0,hb,F,hs,rfl,hr,hold,rfl,hl1,hl2,hsc,hsk⟩:=h
 obtain ⟨x,hx,rfl⟩:=hl2 l hl
 obtain ⟨y,hy⟩:=F.reads x hx
 exact List.any_eq_true.2 ⟨WideElems.rg P k qCk x,mem_sorted.2 (ze.2 ⟨x,hx,rfl⟩),WideAt.sameKey_self (by rw [WideElems.rg_of hy];exact K.key (WideElems.rd_key hy))⟩
theorem RangeAt.at_ {r cnt:Nat} {left:α→Bool} (h:RangeAt P k key w b r n f left cnt):zzMapAt P k key w b n f:=by obtain ⟨D,L,h1,h2,_⟩:=h;exact ⟨D,h1.owns,h2⟩
theorem RangeAt.left_eq {r cnt:Nat} {left:α→Bool} (h:RangeAt P k key w b r n f left cnt):w.rangeLeft b r=cnt:=by obtain ⟨D,L,h1,_⟩:=h;exact h1.left_eq
theorem RangeAt.kept {w':World} {r cnt:Nat} {left:α→Bool} {row:Option Nat} (h:RangeAt P k key w b r n f left cnt) (hg:w.grownBy w' row) (hb:some b≠row) (hr:some r≠row):RangeAt P k key w' b r n f left cnt:=by
 obtain ⟨D,L,h1,h2⟩:=h
 exact ⟨D,L,h1.kept hg hb hr,h2⟩
theorem RangeAt.of_blocks {w':World} {r cnt:Nat} {left:α→Bool} (h:RangeAt P k key w b r n f left cnt) (hb:w'.heap[b]?=w.heap[b]?) (hr:w'.heap[r]?=w.heap[r]?):RangeAt P k key w' b r n f left cnt:=by
 obtain ⟨D,L,⟨es,clock,since,seen,c0,h1,F,hs,hD,h2,rest⟩,h3⟩:=h
 exact ⟨D,L,⟨es,clock,since,seen,c0,hb.trans h1,F,hs,hD,hr.trans h2,rest⟩,h3⟩
theorem RangeAt.lt {r cnt:Nat} {left:α→Bool} (h:RangeAt P k key w b r n f left cnt):r<w.heap.size:=by obtain ⟨D,L,h1,_⟩:=h;exact h1.lt
theorem qB2 {ops:Array Oper} {rest:List Oper} {o:Oper} {a:Act} {Q:Exit→Act→World→Prop} (hg:o.guard=none) (m:Operand) (t e:TypeId) (hop:o.op=Op.range t m) (K:qEX P k mk key ok) (ht:P.underlying t=some (.map k e))
  (hm:a.eval m=.map (some b)) (hown:zzMapAt P k key w b n f)
  (hK:∀ w' cnt,RangeAt P k key w' b w.heap.size n f (fun x=>(f x).isSome) cnt→w.grownBy w' none→w'.heap.size=w.heap.size+1→wpList P ops Q rest (a.put o.dst (.pointer (some ⟨w.heap.size,0,none⟩))) w') :
  wpList P ops Q (o::rest) a w:=by
 obtain ⟨D,h1,h2⟩:=hown
 exact wpList_range_own w hg m t hop k e K.keyed ht qCk b n D hm h1 (fun w' hr hg' hs=>hK w' _ ⟨D,has D,hr,h2,h2.has_eq⟩ hg' hs)
theorem qCe [DecidableEq α] {ops:Array Oper} {rest:List Oper} {o:Oper} {a:Act} {Q:Exit→Act→World→Prop} (hg:o.guard=none) (it:Operand) (hop:o.op=Op.next it false) (K:qEX P k mk key ok) {r cnt:Nat} {left:α→Bool} (hok:∀ x,(f x).isSome=true→ok x)
  (hit:a.eval it=.pointer (some ⟨r,0,none⟩)) (h:RangeAt P k key w b r n f left cnt)
  (hDone:(∀ x,left x=false)→wpList P ops Q rest (a.put o.dst (.tuple #[.bool false])) w)
  (hMore:∀ (x:α) (v:Value) (w':World) (cnt':Nat),left x=true→f x=some v→RangeAt P k key w' b r n f (fun y=>left y&&decide (y≠x)) cnt'→cnt'<cnt→w.grownBy w' (some r)→w'.heap.size=w.heap.size →
   (Instr.entry (.pointer (some ⟨r,0,none⟩))).run P w'=.ok (.tuple #[mk x,v]) w'→wpList P ops Q rest (a.put o.dst (.tuple #[.bool true,mk x,v])) w') :
  wpList P ops Q (o::rest) a w:=by
 have h0:=h
 obtain ⟨D,L,h1,h2,h3⟩:=h
 refine wpList_plain hg fun K' hK'=>?_
 unfold Oper.wp
 rcases h1.next K.keyed o.type with ⟨h4,hl,hrun⟩ | ⟨kv,v,kl,y,w',cnt',hkey,hlk,hv,hat,hrun,hrg,hlt,hgr,hsz,hen⟩
 ·simp [execOp,hop,hit,hrun,Result.andThen]
  exact hK' _ _ (hDone (fun x=>by rw [← h3];exact hl _))
 ·obtain ⟨x,u,rfl,hfx⟩:=h2.has_ kl (qOa h1 K.keyed hlk)
  have hok':=hok x (by rw [hfx];rfl)
  have e1:kv=mk x:=K.keyed.inj hkey (K.of x hok')
  subst e1
  have e2:u=v:=by
   have h5:=hat (.held .nilIface)
   rw [h2.at_ x u hfx] at h5
   simp only [qCk,zB1] at hv
   rw [← hv] at h5
   simpa using h5
  subst e2
  simp [execOp,hop,hit,hrun,Result.andThen]
  refine hK' _ _ (hMore x u w' cnt' (by rw [← h3];exact hlk) hfx ⟨D,_,hrg,h2,fun z=>?_⟩ hlt hgr hsz hen)
  simp only [h3]
  congr 1
  by_cases hz:z=x
  ·subst hz
   simp [WideAt.sameKey_self (K.keyed.key (K.of z hok'))]
  ·have:key z≠key x:=fun e=>hz (K.inj _ _ e)
   simp [Maps.sameKey_ne this,hz]
end
def mkN (n:Nat):Value:=.int .i64 n
def mkS (s:List UInt8):Value:=.string ⟨s.toArray⟩
theorem qQI {P:Program} {k:TypeId} (hk:P.underlying k=some (.int .i64)):qEX P k mkN qKE (fun n=>n≤4611686018427387904) :=
 ⟨int_keyed hk,fun n hn=>keyOf_int_mk hk (by
  have h1:IntKind.i64.min=-9223372036854775808:=by decide
  have h2:IntKind.i64.max=9223372036854775807:=by decide
  simp [Lit.wf,h1,h2]
  omega),qO5⟩
theorem qQ3 {P:Program} {k:TypeId} (hk:P.underlying k=some .string):qEX P k mkS qLE (fun s=>s.length≤maxLen) :=
 ⟨string_keyed hk,fun s hs=>by simpa [mkS,qLE] using Go.WideMaps.keyOf_string_mk hk (s:=⟨s.toArray⟩) (by simpa [ByteArray.size] using hs),qO7⟩
end Stl
namespace Go.Proofs.YtceklhjomhjipaaGreatDoor
open Go.RowKit Go.Sort Stl
abbrev qH4 (n:Nat):Value:=.int .i64 n
abbrev qP0 (x:Nat×List UInt8):List Value:=[.int .i64 x.1,.string ⟨x.2.toArray⟩]
def RoInts (w:World) (c:Nat→Col) (A:Option Addr) (l:List Nat):Prop :=
 l≠[]→∃ b off,A=some ⟨b,off,none⟩∧b<w.heap.size∧c b=.ro∧∀ (j:Nat) x,l[j]?=some x→w.cell? ⟨b,off+j,none⟩=some (.int .i64 x)
section
variable {w w2:World} {c c2:Nat→Col} {S:Col→Bool}
theorem RoInts.ext {A:Option Addr} {l:List Nat} (h:RoInts w c A l) (e:Ext w w2 c c2 S) (h1:S .ro=false):RoInts w2 c2 A l:=fun hn=>by
 obtain ⟨b,off,ha,hb,hc,hj⟩:=h hn
 exact ⟨b,off,ha,zu hb e.size,e.col hb hc h1,fun j x hx=>(zD1 (w:=w) (a:=⟨b,off+j,none⟩) (e.keep b hb (by rw [hc];exact h1)).1).trans (hj j x hx)⟩
def RowAt (w:World) (c:Nat→Col) (x:Col) (e:TypeId) (size:Nat) (v:Value) (n:Nat) (xs:List Value):Prop:=w.ownsRow 0 e size v n xs∧∀ k,v.ownBlock=some k→c k=x
theorem RowAt.ext {x:Col} {e:TypeId} {size:Nat} {v:Value} {n:Nat} {xs:List Value} (h:RowAt w c x e size v n xs) (ex:Ext w w2 c c2 S) (hS:S x=false):RowAt w2 c2 x e size v n xs:=ex.row h.1 h.2 hS
theorem RowAt.slice {x:Col} {e:TypeId} {size:Nat} {v:Value} {n:Nat} {xs:List Value} (h:RowAt w c x e size v n xs):∃ A cap,v=.slice A n cap:=by
 rcases h.1.2 with ⟨rfl,rfl⟩ | ⟨g,cap,cur,rfl,_⟩
 ·exact ⟨none,0,rfl⟩
 ·exact ⟨_,_,rfl⟩
theorem RowAt.pos {x:Col} {e:TypeId} {size:Nat} {v:Value} {n:Nat} {xs:List Value} (h:RowAt w c x e size v n xs) (hn:0<n):∃ g cap,v=.slice (some ⟨g,0,none⟩) n cap∧c g=x∧g<w.heap.size∧n≤cap∧cap≤maxLen:=by
 rcases h.1.2 with ⟨rfl,rfl⟩ | ⟨g,cap,cur,rfl,h1,h2,h3,h4,_⟩
 ·omega
 ·exact ⟨g,cap,rfl,h.2 g rfl,qAa h2,h3,h4⟩
theorem RowAt.of_owns {x:Col} {e:TypeId} {size:Nat} {v:Value} {n:Nat} {xs:List Value} {base:Nat} (h:w.ownsRow base e size v n xs) (hc:∀ k,v.ownBlock=some k→c k=x):RowAt w c x e size v n xs:=by
 refine ⟨⟨h.1,?_⟩,hc⟩
 rcases h.2 with h1 | ⟨g,cap,cur,h1,_,h2⟩
 ·exact .inl h1
 ·exact .inr ⟨g,cap,cur,h1,zx _,h2⟩
def DiskAt (w:World) (c:Nat→Col) (b:Nat) (D:List (List UInt8)):Prop :=
 ∃ v,w.heap[b]?=some (.cells #[v,.slice none 0 0] 79 (0,0))∧c b=.disk∧RowAt w c .diskL 9 1 v D.length (D.map encStr)
theorem DiskAt.ext {b:Nat} {D:List (List UInt8)} (h:DiskAt w c b D) (e:Ext w w2 c c2 S) (h1:S .disk=false) (h2:S .diskL=false):DiskAt w2 c2 b D:=by
 obtain ⟨v,hb,hc,hr⟩:=h
 exact ⟨v,(e.kept hb hc h1).1,(e.kept hb hc h1).2,hr.ext e h2⟩
def DiskW (w:World) (c:Nat→Col) (b:Nat) (D:List (List UInt8)) (W:List (Nat×List UInt8)):Prop :=
 ∃ v vw,w.heap[b]?=some (.cells #[v,vw] 79 (0,0))∧c b=.disk∧RowAt w c .diskL 9 1 v D.length (D.map encStr)∧RowAt w c .wait 223 2 vw W.length (W.flatMap qP0)
theorem DiskW.ext {b:Nat} {D:List (List UInt8)} {W:List (Nat×List UInt8)} (h:DiskW w c b D W) (e:Ext w w2 c c2 S) (h1:S .disk=false) (h2:S .diskL=false) (h3:S .wait=false):DiskW w2 c2 b D W:=by
 obtain ⟨v,vw,hb,hc,hr,hw⟩:=h
 exact ⟨v,vw,(e.kept hb hc h1).1,(e.kept hb hc h1).2,hr.ext e h2,hw.ext e h3⟩
theorem DiskAt.waits {b:Nat} {D:List (List UInt8)} (h:DiskAt w c b D):DiskW w c b D []:=by
 obtain ⟨v,hb,hc,hr⟩:=h
 exact ⟨v,_,hb,hc,hr,zF1 _ _ _ _,fun k hk=>by simp [Value.ownBlock] at hk⟩
def SpaceAt (w:World) (c:Nat→Col) (b:Nat) (U:List Bool):Prop :=
 ∃ v,w.heap[b]?=some (.cells #[v] 131 (0,0))∧c b=.space∧RowAt w c .used 4 1 v U.length (U.map Value.bool)
theorem SpaceAt.ext {b:Nat} {U:List Bool} (h:SpaceAt w c b U) (e:Ext w w2 c c2 S) (h1:S .space=false) (h2:S .used=false):SpaceAt w2 c2 b U:=by
 obtain ⟨v,hb,hc,hr⟩:=h
 exact ⟨v,(e.kept hb hc h1).1,(e.kept hb hc h1).2,hr.ext e h2⟩
def qAz (x:Ino) (A:Option Addr) (cap:Nat):Array Value:=#[.int .i64 x.bytes,.int .i64 x.links,.bool x.exec,.slice A x.blocks.length cap,.int .u32 x.sum.toNat]
def InoAt (w:World) (c:Nat→Col) (b k:Nat) (x:Ino):Prop :=
 ∃ A cap,w.heap[b]?=some (.cells (qAz x A cap) 71 (0,0))∧c b=.stat k∧x.blocks.length≤cap∧RoInts w c A x.blocks
theorem InoAt.ext {b k:Nat} {x:Ino} (h:InoAt w c b k x) (e:Ext w w2 c c2 S) (h1:S (.stat k)=false) (h2:S .ro=false):InoAt w2 c2 b k x:=by
 obtain ⟨A,cap,hb,hc,hl,hr⟩:=h
 exact ⟨A,cap,(e.kept hb hc h1).1,(e.kept hb hc h1).2,hl,hr.ext e h2⟩
abbrev qDf (w:World) (b n:Nat) (f:Nat→Option Value):Prop:=zzMapAt Tryz.prog 3 qKE w b n f
abbrev qBj (w:World) (b n:Nat) (f:List UInt8→Option Value):Prop:=zzMapAt Tryz.prog 9 qLE w b n f
theorem okN:qEX Tryz.prog 3 mkN qKE (fun n=>n≤4611686018427387904):=qQI Tryz.underlying3
theorem okS:qEX Tryz.prog 9 mkS qLE (fun s=>s.length≤maxLen):=qQ3 Tryz.underlying9
def qAF (T:Tab) (st:Nat→Nat) (k:Nat):Option Value:=(T.at_ k).map fun _=>.pointer (some ⟨st k,0,none⟩)
structure TabIn (w:World) (c:Nat→Col) (b:Nat) (T:Tab) (bd bs bm:Nat) (st:Nat→Nat):Prop where
 own:w.heap[b]?=some (.cells #[.pointer (some ⟨bd,0,none⟩),.pointer (some ⟨bs,0,none⟩),.map (some bm)] 86 (0,0))
 col:c b=.tab
 disk:DiskAt w c bd T.disk
 space:SpaceAt w c bs (qAX T)
 mcol:c bm=.tabMap
 map:qDf w bm T.l.length (qAF T st)
 stats:∀ k x,T.at_ k=some x→InoAt w c (st k) k x
def TabAt (w:World) (c:Nat→Col) (b:Nat) (T:Tab):Prop:=∃ bd bs bm st,TabIn w c b T bd bs bm st
def qMd:Col→Bool
 | .tab | .tabMap | .stat _ | .space | .used | .disk | .diskL | .wait=>true
 | _=>false
theorem TabIn.ext {b:Nat} {T:Tab} {bd bs bm:Nat} {st:Nat→Nat} (h:TabIn w c b T bd bs bm st) (e:Ext w w2 c c2 S) (h0:S .ro=false) (h1:∀ x,qMd x=true→S x=false):TabIn w2 c2 b T bd bs bm st :=
 ⟨(e.kept h.own h.col (h1 _ rfl)).1,(e.kept h.own h.col (h1 _ rfl)).2,h.disk.ext e (h1 _ rfl) (h1 _ rfl),h.space.ext e (h1 _ rfl) (h1 _ rfl),e.col h.map.lt h.mcol (h1 _ rfl),h.map.ext e h.mcol (h1 _ rfl),fun k x hk=>(h.stats k x hk).ext e (h1 _ rfl) h0⟩
theorem TabAt.ext {b:Nat} {T:Tab} (h:TabAt w c b T) (e:Ext w w2 c c2 S) (h0:S .ro=false) (h1:∀ x,qMd x=true→S x=false):TabAt w2 c2 b T:=by
 obtain ⟨bd,bs,bm,st,h⟩:=h
 exact ⟨bd,bs,bm,st,h.ext e h0 h1⟩
theorem TabIn.below {b:Nat} {T:Tab} {bd bs bm:Nat} {st:Nat→Nat} (h:TabIn w c b T bd bs bm st) (hb:Below w.heap.size w w2):TabIn w2 c b T bd bs bm st:=h.ext (Ext.of_below hb c S0) rfl (fun _ _=>rfl)
theorem TabAt.below {b:Nat} {T:Tab} (h:TabAt w c b T) (hb:Below w.heap.size w w2):TabAt w2 c b T:=h.ext (Ext.of_below hb c S0) rfl (fun _ _=>rfl)
end
end Go.Proofs.YtceklhjomhjipaaGreatDoor
