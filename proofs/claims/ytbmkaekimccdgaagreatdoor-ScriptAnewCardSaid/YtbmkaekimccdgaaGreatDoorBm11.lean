/- Lemmas. -/
import Derived.Deep.AppendLies
import Derived.Deep.CutBlock
import Derived.Deep.CutRange
import Derived.Deep.DeepCutAuto
import Derived.Deep.RegionHeld3
import Derived.Sort.EncStr
import Derived.Test.YtbmkaekimccdgaaGreatDoorProg
import Derived.Test.YtbmkaekimccdgaaGreatDoorBm03
set_option maxHeartbeats 16000000
set_option maxRecDepth 1000000
set_option linter.all false
namespace Go.Proofs.YtbmkaekimccdgaaGreatDoor
open Go.RowKit Go.Sort Stl
abbrev dW (n:Nat):Value:=.int .i64 n
abbrev oR (x:Nat×List UInt8):List Value:=[.int .i64 x.1,.string ⟨x.2.toArray⟩]
def RoInts (w:World)(c:Nat→Col)(A:Option Addr)(l:List Nat):Prop :=
 l≠[]→∃ b off,A=some ⟨b,off,none⟩∧b<w.heap.size∧c b=.ro∧∀ (j:Nat) x,l[j]?=some x→w.cell? ⟨b,off+j,none⟩=some (.int .i64 x)
section
variable {w w2:World}{c c2:Nat→Col}{S:Col→Bool}
theorem RoInts.ext {A:Option Addr}{l:List Nat}(h:RoInts w c A l)(e:Ext w w2 c c2 S)(h1:S .ro=false):RoInts w2 c2 A l:=fun hn=>by
 obtain⟨b,off,ha,hb,hc,hj⟩:=h hn;exact⟨b,off,ha,zt hb e.size,e.col hb hc h1,fun j x hx=>(zD1 (w:=w) (a:=⟨b,off+j,none⟩) (e.keep b hb (by rw[hc];exact h1)).1).trans (hj j x hx)⟩
def RowAt (w:World)(c:Nat→Col)(x:Col)(e:TypeId)(size:Nat)(v:Value)(n:Nat)(xs:List Value):Prop:=w.ownsRow 0 e size v n xs∧∀ k,v.ownBlock=some k→c k=x
theorem RowAt.ext {x:Col}{e:TypeId}{size:Nat}{v:Value}{n:Nat}{xs:List Value}(h:RowAt w c x e size v n xs)(ex:Ext w w2 c c2 S)(hS:S x=false):RowAt w2 c2 x e size v n xs:=ex.row h.1 h.2 hS
theorem RowAt.slice {x:Col}{e:TypeId}{size:Nat}{v:Value}{n:Nat}{xs:List Value}(h:RowAt w c x e size v n xs):∃ A cap,v=.slice A n cap:=by
 rcases h.1.2 with ⟨rfl,rfl⟩ | ⟨g,cap,cur,rfl,_⟩
 ·exact⟨none,0,rfl⟩
 ·exact⟨_,_,rfl⟩
theorem RowAt.pos {x:Col}{e:TypeId}{size:Nat}{v:Value}{n:Nat}{xs:List Value}(h:RowAt w c x e size v n xs)(hn:0<n):∃ g cap,v=.slice (some ⟨g,0,none⟩) n cap∧c g=x∧g<w.heap.size∧n≤cap∧cap≤maxLen:=by
 rcases h.1.2 with ⟨rfl,rfl⟩ | ⟨g,cap,cur,rfl,h1,h2,h3,h4,_⟩
 ·omega
 ·exact⟨g,cap,rfl,h.2 g rfl,qA h2,h3,h4⟩
theorem RowAt.of_owns {x:Col}{e:TypeId}{size:Nat}{v:Value}{n:Nat}{xs:List Value}{base:Nat}(h:w.ownsRow base e size v n xs)(hc:∀ k,v.ownBlock=some k→c k=x):RowAt w c x e size v n xs:=by
 refine⟨⟨h.1,?_⟩,hc⟩
 rcases h.2 with h1 | ⟨g,cap,cur,h1,_,h2⟩
 ·exact .inl h1
 ·exact .inr ⟨g,cap,cur,h1,zw _,h2⟩
def DiskAt (w:World)(c:Nat→Col)(b:Nat)(D:List (List UInt8)):Prop :=
 ∃ v,w.heap[b]?=some (.cells #[v,.slice none 0 0] 78 (0,0))∧c b=.disk∧RowAt w c .diskL 9 1 v D.length (D.map encStr)
theorem DiskAt.ext {b:Nat}{D:List (List UInt8)}(h:DiskAt w c b D)(e:Ext w w2 c c2 S)(h1:S .disk=false)(h2:S .diskL=false):DiskAt w2 c2 b D:=by
 obtain⟨v,hb,hc,hr⟩:=h;exact⟨v,(e.kept hb hc h1).1,(e.kept hb hc h1).2,hr.ext e h2⟩
def DiskW (w:World)(c:Nat→Col)(b:Nat)(D:List (List UInt8))(W:List (Nat×List UInt8)):Prop :=
 ∃ v vw,w.heap[b]?=some (.cells #[v,vw] 78 (0,0))∧c b=.disk∧RowAt w c .diskL 9 1 v D.length (D.map encStr)∧RowAt w c .wait 273 2 vw W.length (W.flatMap oR)
theorem DiskW.ext {b:Nat}{D:List (List UInt8)}{W:List (Nat×List UInt8)}(h:DiskW w c b D W)(e:Ext w w2 c c2 S)(h1:S .disk=false)(h2:S .diskL=false)(h3:S .wait=false):DiskW w2 c2 b D W:=by
 obtain⟨v,vw,hb,hc,hr,hw⟩:=h;exact⟨v,vw,(e.kept hb hc h1).1,(e.kept hb hc h1).2,hr.ext e h2,hw.ext e h3⟩
theorem DiskAt.waits {b:Nat}{D:List (List UInt8)}(h:DiskAt w c b D):DiskW w c b D []:=by
 obtain⟨v,hb,hc,hr⟩:=h;exact⟨v,_,hb,hc,hr,zF1 _ _ _ _,fun k hk=>by simp[Value.ownBlock] at hk⟩
def SpaceAt (w:World)(c:Nat→Col)(b:Nat)(U:List Bool):Prop :=
 ∃ v,w.heap[b]?=some (.cells #[v] 124 (0,0))∧c b=.space∧RowAt w c .used 4 1 v U.length (U.map Value.bool)
theorem SpaceAt.ext {b:Nat}{U:List Bool}(h:SpaceAt w c b U)(e:Ext w w2 c c2 S)(h1:S .space=false)(h2:S .used=false):SpaceAt w2 c2 b U:=by
 obtain⟨v,hb,hc,hr⟩:=h;exact⟨v,(e.kept hb hc h1).1,(e.kept hb hc h1).2,hr.ext e h2⟩
def jN (x:Ino)(A:Option Addr)(cap:Nat):Array Value:=#[.int .i64 x.bytes,.int .i64 x.links,.bool x.exec,.slice A x.blocks.length cap,.int .u32 x.sum.toNat]
def InoAt (w:World)(c:Nat→Col)(b k:Nat)(x:Ino):Prop :=
 ∃ A cap,w.heap[b]?=some (.cells (jN x A cap) 254 (0,0))∧c b=.stat k∧x.blocks.length≤cap∧RoInts w c A x.blocks
theorem InoAt.ext {b k:Nat}{x:Ino}(h:InoAt w c b k x)(e:Ext w w2 c c2 S)(h1:S (.stat k)=false)(h2:S .ro=false):InoAt w2 c2 b k x:=by
 obtain⟨A,cap,hb,hc,hl,hr⟩:=h;exact⟨A,cap,(e.kept hb hc h1).1,(e.kept hb hc h1).2,hl,hr.ext e h2⟩
abbrev gS (w:World)(b n:Nat)(f:Nat→Option Value):Prop:=zzMapAt Tryz.prog 3 dY w b n f
abbrev vM (w:World)(b n:Nat)(f:List UInt8→Option Value):Prop:=zzMapAt Tryz.prog 9 oB w b n f
theorem okN:pM Tryz.prog 3 mkN dY (fun n=>n≤4611686018427387904):=qOG Tryz.underlying3
theorem okS:pM Tryz.prog 9 mkS oB (fun s=>s.length≤maxLen):=qOK Tryz.underlying9
def jT (T:Tab)(st:Nat→Nat)(k:Nat):Option Value:=(T.at_ k).map fun _=>.pointer (some ⟨st k,0,none⟩)
structure TabIn (w:World)(c:Nat→Col)(b:Nat)(T:Tab)(bd bs bm:Nat)(st:Nat→Nat):Prop where
 own:w.heap[b]?=some (.cells #[.pointer (some ⟨bd,0,none⟩),.pointer (some ⟨bs,0,none⟩),.map (some bm)] 85 (0,0))
 col:c b=.tab
 disk:DiskAt w c bd T.disk
 space:SpaceAt w c bs (vN T)
 mcol:c bm=.tabMap
 map:gS w bm T.l.length (jT T st)
 stats:∀ k x,T.at_ k=some x→InoAt w c (st k) k x
def TabAt (w:World)(c:Nat→Col)(b:Nat)(T:Tab):Prop:=∃ bd bs bm st,TabIn w c b T bd bs bm st
def oC:Col→Bool
 | .tab | .tabMap | .stat _ | .space | .used | .disk | .diskL | .wait=>true
 | _=>false
theorem TabIn.ext {b:Nat}{T:Tab}{bd bs bm:Nat}{st:Nat→Nat}(h:TabIn w c b T bd bs bm st)(e:Ext w w2 c c2 S)(h0:S .ro=false)(h1:∀ x,oC x=true→S x=false):TabIn w2 c2 b T bd bs bm st :=
 ⟨(e.kept h.own h.col (h1 _ rfl)).1,(e.kept h.own h.col (h1 _ rfl)).2,h.disk.ext e (h1 _ rfl) (h1 _ rfl),h.space.ext e (h1 _ rfl) (h1 _ rfl),e.col h.map.lt h.mcol (h1 _ rfl),h.map.ext e h.mcol (h1 _ rfl),fun k x hk=>(h.stats k x hk).ext e (h1 _ rfl) h0⟩
theorem TabAt.ext {b:Nat}{T:Tab}(h:TabAt w c b T)(e:Ext w w2 c c2 S)(h0:S .ro=false)(h1:∀ x,oC x=true→S x=false):TabAt w2 c2 b T:=by
 obtain⟨bd,bs,bm,st,h⟩:=h;exact⟨bd,bs,bm,st,h.ext e h0 h1⟩
theorem TabIn.below {b:Nat}{T:Tab}{bd bs bm:Nat}{st:Nat→Nat}(h:TabIn w c b T bd bs bm st)(hb:Below w.heap.size w w2):TabIn w2 c b T bd bs bm st:=h.ext (Ext.of_below hb c S0) rfl (fun _ _=>rfl)
theorem TabAt.below {b:Nat}{T:Tab}(h:TabAt w c b T)(hb:Below w.heap.size w w2):TabAt w2 c b T:=h.ext (Ext.of_below hb c S0) rfl (fun _ _=>rfl)
end
structure xX (e:TypeId)(z:Value)(size bytes:Nat):Prop where
 info:∃ i:TypeInfo,Tryz.prog.info? e=some i∧i.zero=some z∧i.size=size∧i.bytes=bytes
 cells:z.cells.size=size
 pos:0<size
theorem xQ {e:TypeId}{z:Value}{size bytes:Nat}(h:(Tryz.prog.info? e).map (fun i=>(i.zero,i.size,i.bytes))=some (some z,size,bytes))(hc:z.cells.size=size)(hp:0<size):xX e z size bytes:=by
 refine⟨?_,hc,hp⟩
 cases hi:Tryz.prog.info? e with
 | none=>rw[hi] at h;cases h
 | some i =>
  rw[hi] at h;simp only[zA1,zB1,Prod.mk.injEq] at h;exact⟨i,rfl,h.1,h.2.1,h.2.2⟩
theorem qGD:xX 3 (.int .i64 0) 1 8:=xQ (by kernel_rfl) rfl (by decide)
theorem mY:xX 9 (.string ByteArray.empty) 1 16:=xQ (by kernel_rfl) rfl (by decide)
theorem qO3:xX 273 (.agg #[.int .i64 0,.string ByteArray.empty]) 2 24:=xQ (by kernel_rfl) rfl (by decide)
theorem wrap_i64 {z:Int}(h0:-9223372036854775808≤z)(h1:z<9223372036854775808):IntKind.i64.wrap z=z:=by
 simp[IntKind.wrap,IntKind.bits,IntKind.signed];omega
section
variable {w w2:World}{c c2:Nat→Col}{S:Col→Bool}{x:Col}{e:TypeId}{size bytes:Nat}{v z:Value}{n:Nat}{xs:List Value}
theorem Ext.paint (w:World){c:Nat→Col}{g:Nat}{x:Col}(h:c g=x)(y:Col):Ext w w c (jC c g y) (S1 x) :=
 (Ext.refl w c (S1 x)).recolor fun b _ hs=>kK fun e=>by subst e;rw[h] at hs;simp[S1] at hs
theorem RowAt.nil (w:World)(c:Nat→Col)(x:Col)(e:TypeId)(size:Nat):RowAt w c x e size (.slice none 0 0) 0 []:=⟨zF1 _ _ _ _,fun k hk=>by simp[Value.ownBlock] at hk⟩
theorem RowAt.cellAt {g cap:Nat}(h:RowAt w c x e size (.slice (some ⟨g,0,none⟩) n cap) n xs)(j:Nat)(hj:j<n*size):w.cell? ⟨g,j,none⟩=xs[j]?:=h.1.cellAt j hj
theorem RowAt.frozenAt {g cap:Nat}(h:RowAt w c x e size (.slice (some ⟨g,0,none⟩) n cap) n xs)(j:Nat):w.frozen? ⟨g,j,none⟩=false:=h.1.frozenAt j
theorem RowAt.length (h:RowAt w c x e size v n xs):xs.length=n*size:=h.1.1
theorem RowAt.stored {g cap:Nat}(h:RowAt w c x e size (.slice (some ⟨g,0,none⟩) n cap) n xs)(j:Nat)(u:Value) :
  RowAt (w.setCell ⟨g,j,none⟩ u) c x e size (.slice (some ⟨g,0,none⟩) n cap) n (xs.set j u)∧Ext w (w.setCell ⟨g,j,none⟩ u) c c (S1 x) :=
 ⟨⟨(h.1.stored j u).1,h.2⟩,(Ext.refl w c (S1 x)).setCell (fun _=>by rw[h.2 g rfl];simp[S1]) u⟩
theorem RowAt.grown (h:RowAt w c x e size v n xs){v':Value}{m:Nat}{ys:List Value}(hown:w2.ownsRow 0 e size v' m ys)(hg:w.grownBy w2 v.ownBlock)(hat:v'.ownBlock=v.ownBlock∨v'.ownBlock=some w.heap.size) :
  RowAt w2 (jC c w.heap.size x) x e size v' m ys∧Ext w w2 c (jC c w.heap.size x) (S1 x):=by
 refine⟨⟨hown,fun k hk=>?_⟩,?_⟩
 ·rcases hat with h1 | h1
  ·rw[h1] at hk;rw[qJ (h.1.lt k hk).2 (zo _)];exact h.2 k hk
  ·rw[h1] at hk;injection hk with hk
   subst hk;exact qM _ _ _
 ·exact((Ext.refl w c (S1 x)).grown hg (fun k hk _=>by rw[h.2 k hk];simp[S1])).recolor fun b hb _=>qJ hb (zo _)
theorem Ext.appended {w0:World}{c0:Nat→Col}(h:Ext w0 w c0 c S)(hg:w.grownBy w2 v.ownBlock)(hn:∀ g,v.ownBlock=some g→w0.heap.size≤g)(x:Col):Ext w0 w2 c0 (jC c w.heap.size x) S :=
 (h.grown hg (fun k hk hlt=>by have:=hn k hk;omega)).recolor fun b hb _=>qJ hb h.size
theorem qFR {w0:World}{v':Value}(hat:v'.ownBlock=v.ownBlock∨v'.ownBlock=some w.heap.size)(hn:∀ g,v.ownBlock=some g→w0.heap.size≤g)(hs:w0.heap.size≤w.heap.size):∀ g,v'.ownBlock=some g→w0.heap.size≤g:=fun g hg=>by
 rcases hat with h | h
 ·exact hn g (by rw[← h];exact hg)
 ·rw[h] at hg;injection hg with hg
  omega
theorem qBi {ops:Array Oper}{rest:List Oper}{o:Oper}{a:Act}{Q:Exit→Act→World→Prop}(hgd:o.guard=none)(s y:Operand)(t:TypeId)
  (ho:o.op=.call { callee:=.builtin .append,args:=#[s,y],argTypes:=#[t,t] }) (he:xX e z size bytes) (ht:Tryz.prog.underlying t=some (.slice e))
  (hs:a.eval s=v) (h:RowAt w c x e size v n xs)
  (A:Option Addr) (m cap:Nat) (news:List Value) (hx:a.eval y=.slice A m cap) (hl:news.length=m*size) (hA:A=none→m=0∧cap=0) (hnews:∀ ad,A=some ad→∀ j u,news[j]?=some u→w.cell? (ad.add j)=some u) (h1:∀ u∈news,u.oneCell'=true)
  (h63:n+m≤maxLen) (hbytes:(n+m)*bytes≤140737488355328)
  (hK:∀ A' c' w',RowAt w' (jC c w.heap.size x) x e size (.slice A' (n+m) c') (n+m) (xs++news)→Ext w w' c (jC c w.heap.size x) (S1 x)→w.grownBy w' v.ownBlock→((Value.slice A' (n+m) c').ownBlock=v.ownBlock∨(Value.slice A' (n+m) c').ownBlock=some w.heap.size)→wpList Tryz.prog ops Q rest (a.put o.dst (.slice A' (n+m) c')) w'):wpList Tryz.prog ops Q (o::rest) a w:=by
 obtain⟨i,hi,hz0,hz1,hz2⟩:=he.info;exact Stl.wpList_app w hgd s y t ho 0 e i z size bytes ht hi hz0 hz1 hz2 he.cells he.pos v n xs hs h.1 A m cap news hx hl hA hnews h1 h63 hbytes (zw _)
  fun A' c' w' h2 h3 h4=>hK A' c' w' (h.grown h2 h3 h4).1 (h.grown h2 h3 h4).2 h3 h4
theorem jD (cs:List Value)(t:TypeId)(w:World):∀ ad,some (⟨w.heap.size,0,none⟩:Addr)=some ad→∀ j u,cs[j]?=some u→(w.alloc (.cells cs.toArray t)).cell? (ad.add j)=some u:=by
 intro ad had
 cases had
 exact World.news_of_block (cs:=cs.toArray) (t:=t) (fr:=(0,0)) (zK1 w _)
end
end Go.Proofs.YtbmkaekimccdgaaGreatDoor
namespace Stl
theorem crc_take (l:List UInt8)(k:Nat)(h:k<l.length):(l.take (k+1)).foldl crcByte 0xFFFFFFFF=crcByte ((l.take k).foldl crcByte 0xFFFFFFFF) l[k]:=by
 rw[zn h,List.foldl_append];rfl
theorem bits_xor (x y:UInt32):Go.bits .xor .u32 (x.toNat:Int) (y.toNat:Int)=((x ^^^ y).toNat:Int):=by
 show Go.IntKind.wrap .u32 ((BitVec.ofInt 32 (x.toNat:Int) ^^^ BitVec.ofInt 32 (y.toNat:Int)).toNat:Int)=_;rw[u32_xor,qHG _ (UInt32.toNat_lt _)]
theorem qLT (x y:UInt32):Go.bits .and .u32 (x.toNat:Int) (y.toNat:Int)=((x &&& y).toNat:Int):=by
 show Go.IntKind.wrap .u32 ((BitVec.ofInt 32 (x.toNat:Int) &&& BitVec.ofInt 32 (y.toNat:Int)).toNat:Int)=_;rw[u32_and,qHG _ (UInt32.toNat_lt _)]
theorem bits_in (c:UInt32)(b:UInt8):Go.bits .xor .u32 (c.toNat:Int) ((b.toNat:Int)%4294967296)=((c ^^^ b.toUInt32).toNat:Int):=by
 have e1:(b.toNat:Int)%4294967296=(b.toUInt32.toNat:Int):=by
  have:=b.toNat_lt;simp;omega
 rw[e1,bits_xor]
theorem crc_bit (c:UInt32):Go.bits .xor .u32 ((c.toNat:Int)/2) (3988292384*Go.bits .and .u32 (c.toNat:Int) 1%4294967296)=((crcBit c).toNat:Int):=by
 have e1:Go.bits .and .u32 (c.toNat:Int) 1=((c &&& 1).toNat:Int):=qLT c 1;have e2:(3988292384*((c &&& 1).toNat:Int))%4294967296=((0xEDB88320*(c &&& 1)).toNat:Int):=by
  rw[UInt32.toNat_mul];simp
 have e3:(c.toNat:Int)/(2:Int)=((c >>> 1).toNat:Int):=by
  have:(c >>> 1).toNat=c.toNat/2:=by
   rw[UInt32.toNat_shiftRight];simp[Nat.shiftRight_eq_div_pow]
  rw[this];omega
 rw[e1,e2,e3,bits_xor];rfl
end Stl
namespace Go.Proofs.YtbmkaekimccdgaaGreatDoor
open Go.RowKit
theorem qGT (l:List UInt8)(hl:l.length≤1000000)(w:World) :
  Calls Tryz.prog 185 #[.string ⟨l.toArray⟩] w fun e w'=>e=.returned (.int .u32 (Stl.crc l).toNat)∧w'=w:=by
 go_enter Tryz.func185,Tryz.ntmps185;go_wp2_with fail
 go_loopw [3,7] (fun a i wr=>wr=w∧∃ k:Nat,k≤l.length∧i=.int .i64 k∧a=.int .u32 ((l.take k).foldl Stl.crcByte 0xFFFFFFFF).toNat) (fun _ i _=>l.length-(intOf i).toNat)
 case atStart=>exact⟨rfl,0,zw _,rfl,rfl⟩
 case round =>
  obtain⟨rfl,k,hk,rfl,rfl⟩:=hrel;by_cases hkl:k<l.length
  ·have i1:(k:Int)<(l.length:Int):=by omega
   have i2:(0:Int)≤(k:Int):=by omega
   have HT:=Hh (Stl.crc_take l k hkl);generalize (l.take k).foldl Stl.crcByte 0xFFFFFFFF=c0 at *;have hb:(ByteArray.mk l.toArray)[k]'(by simpa[ByteArray.size] using hkl)=l[k]:=by simp[ByteArray.getElem_eq_getElem_data]
   have HC:=Hh hkl;generalize l[k]=b at *;have hx:=Stl.bits_in c0 b;go_wp2_with fail
   go_loopw [3,16] (fun a i wq=>wq=wr∧∃ q:Nat,q≤8∧i=.int .i64 q∧a=.int .u32 (Nat.repeat Stl.crcBit q (c0 ^^^ b.toUInt32)).toNat) (fun _ i _=>8-(intOf i).toNat)
   case atStart=>exact⟨rfl,0,by omega,rfl,rfl⟩
   case round =>
    obtain⟨rfl,q,hq,rfl,rfl⟩:=hrel;by_cases hq8:q<8
    ·have j1:(q:Int)<8:=by omega
     have HN:=Hh (show Nat.repeat Stl.crcBit (q+1) (c0 ^^^ b.toUInt32)=Stl.crcBit (Nat.repeat Stl.crcBit q (c0 ^^^ b.toUInt32)) from rfl);generalize Nat.repeat Stl.crcBit q (c0 ^^^ b.toUInt32)=c1 at *;go_wp2;go_roundw
     case rel =>
      refine⟨trivial,q+1,hq8,by go_num,?_⟩;rw[HN.o];exact congrArg (Value.int .u32) (Stl.crc_bit c1)
     case measure=>simp[intOf];omega
    ·have j1:¬ (q:Int)<8:=by omega
     have hq9:q=8:=by omega
     subst hq9;go_wp2;go_roundw
     case rel =>
      refine⟨trivial,k+1,HC.o,by go_num,?_⟩;rw[HT.o];rfl
     case measure=>simp[intOf];omega
  ·have i1:¬ (k:Int)<(l.length:Int):=by omega
   have hs:IntKind.u32.signed=false:=rfl;have HK:=Hh (show l.take k=l from zm (by omega));have hx:=Stl.bits_xor 0xFFFFFFFF ((l.take k).foldl Stl.crcByte 0xFFFFFFFF);go_wp2;go_ret;refine⟨?_,rfl⟩;have hy:bits BinOp.xor IntKind.u32 IntKind.u32.max ((l.take k).foldl Stl.crcByte 0xFFFFFFFF).toNat=((Stl.crc l).toNat:Int):=by
    rw[HK.o] at hx ⊢;exact hx.trans (by congr 2)
   exact congrArg (fun x=>Ending.returned (.int .u32 x)) hy
end Go.Proofs.YtbmkaekimccdgaaGreatDoor
namespace Go.Proofs.YtbmkaekimccdgaaGreatDoor
open Go.RowKit Go.Sort Stl
theorem qIJ (x:UInt8)(r:Nat)(hr:r<8):bits BinOp.xor IntKind.u8 (x.toNat:Int) (2 ^ r%256)=((x ^^^ ((1:UInt8) <<< r.toUInt8)).toNat:Int):=by
 have h1:∀ r:Nat,r<8→2 ^ r%256=((1:UInt8) <<< r.toUInt8).toNat:=by decide
 have h2:((2:Int) ^ r%256)=(((1:UInt8) <<< r.toUInt8).toNat:Int):=by
  rw[← h1 r hr];simp
 rw[h2];generalize (1:UInt8) <<< r.toUInt8=y;show IntKind.wrap .u8 ((BitVec.ofInt 8 (x.toNat:Int) ^^^ BitVec.ofInt 8 (y.toNat:Int)).toNat:Int)=_;have e1:∀ z:UInt8,BitVec.ofInt 8 (z.toNat:Int)=z.toBitVec:=fun z=>by rw[BitVec.ofInt_natCast];simp
 rw[e1,e1];have h3:(x.toBitVec ^^^ y.toBitVec).toNat=(x ^^^ y).toNat:=rfl;rw[h3];generalize x ^^^ y=z;have h4:z.toNat<256:=z.toNat_lt;simp[IntKind.wrap,IntKind.bits,IntKind.signed];omega
section
variable {w:World}{c:Nat→Col}{b:Nat}{D:List (List UInt8)}
theorem qL6 (h:DiskAt w c b D) :
  Calls Tryz.prog 27 #[.pointer (some ⟨b,0,none⟩)] w fun e w'=>e=.returned (.int .i64 D.length)∧w'=w:=by
 obtain⟨v,hb,hc,hr⟩:=h;obtain⟨A,cap,rfl⟩:=hr.slice;have c0:=ce0 hb;clear hb hr;go_enter Tryz.func27,Tryz.ntmps27;go_wp2;go_ret;exact⟨rfl,rfl⟩
def oI:Col→Bool:=fun x=>decide (x=.disk)||decide (x=.wait)
theorem qI0 {W:List (Nat×List UInt8)}(h:DiskW w c b D W)(k:Nat)(hk:k<D.length)(hW:W.length≤1000000)(s:List UInt8)(hs:s.length=16) :
  Calls Tryz.prog 286 #[.pointer (some ⟨b,0,none⟩),.int .i64 k,.string ⟨s.toArray⟩] w fun e w'=>e=.returned .nilIface∧∃ c2,Ext w w' c c2 oI∧DiskW w' c2 b D (W++[(k,s)]):=by
 obtain⟨v,vw,hb,hc,hr,hw⟩:=h;obtain⟨A,cap,rfl⟩:=hr.slice;obtain⟨A2,cap2,rfl⟩:=hw.slice;have c0:=ce0 hb;have c1:=ce1 hb;have i1:(k:Int)<(D.length:Int):=by omega
 have i2:(0:Int)≤(k:Int):=by omega
 have i3:¬ (k:Int)<0:=by omega
 have i4:¬ (D.length:Int)≤(k:Int):=by omega
 have HB:=Hh hb;have HC:=Hh hc;have HR:=Hh hr;have HW:=Hh hw;have hs2:(s.length:Int)=16:=by omega
 clear hb hc hr hw;go_enter Tryz.func286,Tryz.ntmps286;go_upto_region 3 with go_in
 have e0:=(Ext.refl w c S0).alloc (.cells #[.int .i64 k,.string ⟨s.toArray⟩] 273);have HW1:=Hh (HW.o.ext e0 rfl);have HR1:=Hh (HR.o.ext e0 rfl);have HB1:=Hh (e0.kept HB.o HC.o rfl);have HE:=Hh e0;clear e0;go_wp2_with (at_builtin;refine qBi rfl _ _ 76 rfl qO3 Tryz.underlying76 rfl HW1.o (some ⟨w.heap.size,0,none⟩) 1 1 [.int .i64 k,.string ⟨s.toArray⟩] rfl rfl (fun h=>by cases h) (jD _ _ _) (by simp[Value.oneCell']) (by unfold maxLen;omega) (by omega) ?_;intro A' c' w' hrow hext _ _;have hb2:=hext.kept HB1.o.1 HB1.o.2 rfl;have g1:=zJ1 w' b 1 _ _ _ hb2.1;have f1:=qC hb2.1 1);go_ret;obtain⟨h3,e3⟩:=Ext.cell hb2.1 hb2.2 1 (.slice A' (W.length+1) c');refine⟨rfl,_,((HE.o.mono (S':=oI) (fun _ _=>rfl)).then hext (jP rfl)).then e3 (jP rfl),_,_,h3,hb2.2,(HR1.o.ext hext rfl).ext e3 rfl,?_⟩;have:=hrow.ext e3 rfl;simpa[oR] using this
structure DiskV (w:World)(c:Nat→Col)(b:Nat)(v vw:Value)(N:Nat)(D:List (List UInt8))(W:List (Nat×List UInt8)):Prop where
 own:w.heap[b]?=some (.cells #[v,vw] 78 (0,0))
 col:c b=.disk
 row:RowAt w c .diskL 9 1 v N (D.map encStr)
 wait:RowAt w c .wait 273 2 vw W.length (W.flatMap oR)
theorem DiskV.ext {w w2:World}{c c2:Nat→Col}{S:Col→Bool}{b:Nat}{v vw:Value}{N:Nat}{D:List (List UInt8)}{W:List (Nat×List UInt8)}(h:DiskV w c b v vw N D W)(e:Ext w w2 c c2 S)(h1:S .disk=false)(h2:S .diskL=false)(h3:S .wait=false):DiskV w2 c2 b v vw N D W :=
 ⟨(e.kept h.own h.col h1).1,(e.kept h.own h.col h1).2,h.row.ext e h2,h.wait.ext e h3⟩
def gP:Col→Bool:=fun x=>decide (x=.disk)||decide (x=.diskL)||decide (x=.wait)
def wL (D:List (List UInt8))(W:List (Nat×List UInt8)):List (List UInt8):=W.foldl (fun D x=>D.set x.1 x.2) D
theorem qAQ:∀ (W:List (Nat×List UInt8)) (D:List (List UInt8)),(wL D W).length=D.length
 | [],_=>rfl
 | x::r,D=>by
  have:=qAQ r (D.set x.1 x.2);simpa[wL] using this
theorem qF2 (D:List (List UInt8))(W:List (Nat×List UInt8))(i:Nat)(h:i<W.length):wL D (W.take (i+1))=(wL D (W.take i)).set W[i].1 W[i].2:=by
 unfold wL;rw[zn h,List.foldl_append];rfl
theorem qI6:∀ (W:List (Nat×List UInt8)) (i:Nat) (h:i<W.length),(W.flatMap oR)[i*2]?=some (.int .i64 W[i].1)∧(W.flatMap oR)[i*2+1]?=some (.string ⟨W[i].2.toArray⟩)
 | [],_,h=>by simp at h
 | x::r,0,_=>by simp[oR]
 | x::r,i+1,h=>by
  have:=qI6 r i (by simpa using h);rw[show (i+1)*2=i*2+2 by omega];simpa[oR,List.flatMap_cons] using this
theorem qEI {W:List (Nat×List UInt8)}(h:DiskW w c b D W)(hk:∀ x∈W,x.1<D.length)(hD:D.length≤1000000)(hW:W.length≤1000000) :
  Calls Tryz.prog 287 #[.pointer (some ⟨b,0,none⟩)] w fun e w'=>e=.returned (.tuple #[])∧Ext w w' c c gP∧DiskAt w' c b (wL D W):=by
 obtain⟨v,vw,hb,hc,hr,hw⟩:=h;have HK:=Hh hk;obtain⟨A,cap,rfl⟩:=hr.slice;obtain⟨A2,cap2,rfl⟩:=hw.slice;have c1:=ce1 hb;have HV:=Hh (DiskV.mk hb hc hr hw);clear hb hc hr hw hk;go_enter Tryz.func287,Tryz.ntmps287;go_wp2_with fail;clear c1
 go_loopw [9] (fun a wr=>∃ i:Nat,i≤W.length∧a=.int .i64 i∧Hg (Ext w wr c c gP)∧Hg (DiskV wr c b (.slice A D.length cap) (.slice A2 W.length cap2) D.length (wL D (W.take i)) W)) (fun a _=>W.length-(intOf a).toNat)
 case atStart=>exact⟨0,zw _,rfl,Hh (Ext.refl _ _ _),by simpa[wL] using HV⟩
 case round =>
  obtain⟨i,hi,rfl,HE,HV2⟩:=hrel;by_cases hil:i<W.length
  ·have i1:(i:Int)<(W.length:Int):=by omega
   have i2:(0:Int)≤(i:Int):=by omega
   obtain⟨g2,cap2',e2,hg2,hg2l,_,_⟩:=HV2.o.wait.pos (by omega);simp only[zC1] at e2;obtain⟨rfl,_,rfl⟩:=e2;have hWi:=qI6 W i hil;have q0:=(HV2.o.wait.cellAt (i*2) (by omega)).trans hWi.1;have q1:=(HV2.o.wait.cellAt (i*2+1) (by omega)).trans hWi.2;have HD:=Hh (qF2 D W i hil);have HKI:=Hh (HK.o _ (zO hil));generalize W[i]=x at *;obtain⟨k,s⟩:=x;simp only at q0 q1 HKI;clear hWi;go_upto_region 3 with fail;have e0:=(Ext.refl wr c gP).alloc (.cells #[.int .i64 k,.string ⟨s.toArray⟩] 273);have HB:=Hh (zK1 wr (.cells #[.int .i64 k,.string ⟨s.toArray⟩] 273));have HV3:=Hh (HV2.o.ext ((Ext.refl wr c S0).alloc (.cells #[.int .i64 k,.string ⟨s.toArray⟩] 273)) rfl rfl rfl);have HE0:=Hh (HE.o.trans e0);clear e0 q0 q1;generalize wr.alloc (.cells #[.int .i64 k,.string ⟨s.toArray⟩] 273)=W1 at *;obtain⟨g,cap',e2,hg,hgl,_,_⟩:=HV3.o.row.pos (by have:=HKI.o;omega);simp only[zC1] at e2;obtain⟨rfl,_,rfl⟩:=e2;have hkD:=HKI.o;have c0:=ce0 HV3.o.own;have q0:=ce0 HB.o;have q1:=ce1 HB.o;have r0:∃ u,W1.cell? ⟨g,k,none⟩=some u:=by
    have hl:=HV3.o.row.length;have:=HV3.o.row.cellAt k (by omega);rw[zL (by omega)] at this;exact⟨_,this⟩
   obtain⟨u0,r0⟩:=r0;have f0:=HV3.o.row.frozenAt k;have j1:(k:Int)<(D.length:Int):=by omega
   have j2:(0:Int)≤(k:Int):=by omega
   go_region
   go_wp2;go_roundw
   case rel =>
    obtain⟨h3,e3⟩:=HV3.o.row.stored k (.string ⟨s.toArray⟩);have e4:=e3.drew;refine⟨i+1,hil,by go_num,Hh (HE0.o.then e4 (jP rfl)),Hh ⟨?_,HV3.o.col,?_,HV3.o.wait.ext e4 rfl⟩⟩
    ·exact(e4.kept HV3.o.own HV3.o.col rfl).1
    ·rw[HD.o,List.map_set];exact h3
   case measure=>simp[intOf];omega
  ·have i1:¬ (i:Int)<(W.length:Int):=by omega
   have hT:W.take i=W:=zm (by omega);rw[hT] at HV2;have g1:=ce1 HV2.o.own;have f1:=qC HV2.o.own 1;go_wp2;go_end0;obtain⟨h3,e3⟩:=Ext.cell HV2.o.own HV2.o.col 1 (.slice none 0 0);exact⟨rfl,HE.o.then e3 (jP rfl),_,h3,HV2.o.col,by rw[qAQ];exact HV2.o.row.ext e3 rfl⟩
theorem qH1 (l:List UInt8)(bit:Nat)(hl:l.length=16)(hb:bit<128)(w:World) :
  Calls Tryz.prog 183 #[.string ⟨l.toArray⟩,.int .i64 bit] w fun e w'=>e=.returned (.string ⟨(Stl.turnBit l bit).toArray⟩)∧Below w.heap.size w w':=by
 have i1:(0:Int)≤(bit:Int):=by omega
 have hcv:=run_bytes_of_string (P:=Tryz.prog) w 9 89 5 ⟨l.toArray⟩ Tryz.underlying9 Tryz.underlying89 Tryz.underlying5;generalize hcap:grownCap w (ByteArray.mk l.toArray).size 0 5=cap at hcv;have HB:=Hh (zK1 w.drew (.cells (bytesRow ⟨l.toArray⟩ cap) 5 ((bytesRow ⟨l.toArray⟩ cap).size,(bytesRow ⟨l.toArray⟩ cap).size+1)));go_enter Tryz.func183,Tryz.ntmps183;have hsz:(ByteArray.mk l.toArray).size=16:=by simpa[ByteArray.size] using hl
 have hC:∀ j (hj:j<l.length),(bytesRow ⟨l.toArray⟩ cap)[j]?=some (.int .u8 (l[j].toNat:Int)):=fun j hj=>by
  have:=bytesRow_at ⟨l.toArray⟩ cap j (by simpa using hj);simpa using this
 have hR:16≤(bytesRow ⟨l.toArray⟩ cap).size:=by
  have:=(Array.getElem?_eq_some_iff.1 (hC 15 (by omega))).1;omega
 have HC:=Hh hC;go_upto_region 2 with fail;clear hC hcv;have HBl:=Hh (((zB _ w).alloc (zo _) (.cells (bytesRow ⟨l.toArray⟩ cap) 5 ((bytesRow ⟨l.toArray⟩ cap).size,(bytesRow ⟨l.toArray⟩ cap).size+1))).drew);have HB1:=Hh (show ((w.alloc (.cells (bytesRow ⟨l.toArray⟩ cap) 5 ((bytesRow ⟨l.toArray⟩ cap).size,(bytesRow ⟨l.toArray⟩ cap).size+1))).drew).heap[w.heap.size]?=_ from HB.o);clear HB;generalize (w.alloc (.cells (bytesRow ⟨l.toArray⟩ cap) 5 ((bytesRow ⟨l.toArray⟩ cap).size,(bytesRow ⟨l.toArray⟩ cap).size+1))).drew=W1 at *;obtain⟨q,hq,hq2⟩:∃ q:Nat,bit/8=q∧q<l.length:=⟨bit/8,rfl,by omega⟩;obtain⟨r,hr,hr2⟩:∃ r:Nat,bit%8=r∧r<8:=⟨bit%8,rfl,by omega⟩;have k0:W1.cell? ⟨w.heap.size,q,none⟩=some (.int .u8 (l[q].toNat:Int)):=by rw[zJ1 W1 _ q _ _ _ HB1.o];exact HC.o q hq2
 have f0:W1.frozen? ⟨w.heap.size,q,none⟩=false:=by
  simp only[World.frozen?,HB1.o];have:¬ (bytesRow ⟨l.toArray⟩ cap).size≤q:=by omega
  simp[this]
 have j1:(bit:Int)/8=(q:Int):=by omega
 have j2:(bit:Int)%8=(r:Int):=by omega
 have j3:(q:Int)<16:=by omega
 have j4:(0:Int)≤(q:Int):=by omega
 have j5:(0:Int)≤(r:Int):=by omega
 have hx:=qIJ l[q] r hr2;have HX:=Hh (show Stl.turnBit l bit=l.set q (l[q] ^^^ ((1:UInt8) <<< r.toUInt8)) by
  unfold Stl.turnBit
  rw[hq,hr,List.getD_eq_getElem?_getD,zL hq2]
  rfl)
 have HL:=Hh (show (l.set q (l[q] ^^^ ((1:UInt8) <<< r.toUInt8))).length=16 by simp[hl]);have HCL:=Hh (show ∀ j,j<16→(l.set q (l[q] ^^^ ((1:UInt8) <<< r.toUInt8)))[j]?=if j=q then some (l[q] ^^^ ((1:UInt8) <<< r.toUInt8)) else l[j]? from fun j hj=>by
  rw[List.getElem?_set]
  by_cases e:j=q
  ·subst e;simp[hq2]
  ·simp[e,Ne.symm e])
 have HLQ:=Hh (show (l[q] ^^^ ((1:UInt8) <<< r.toUInt8))=l[q] ^^^ ((1:UInt8) <<< r.toUInt8) from rfl);generalize l.set q (l[q] ^^^ ((1:UInt8) <<< r.toUInt8))=l2 at HX HL HCL;generalize (l[q] ^^^ ((1:UInt8) <<< r.toUInt8))=u at hx HCL HLQ
 go_region
 have HS:=Hh (show ((W1.setCell ⟨w.heap.size,q,none⟩ (.int .u8 (u.toNat:Int))).drew).heap[w.heap.size]?=_ from qH HB1.o q (.int .u8 (u.toNat:Int)));have HBl2:=Hh ((HBl.o.setCell (p:=⟨w.heap.size,q,none⟩) (zo _) (.int .u8 (u.toNat:Int))).drew);generalize (W1.setCell ⟨w.heap.size,q,none⟩ (.int .u8 (u.toNat:Int))).drew=W2 at *;have hcb:=run_convert_bytes_back (P:=Tryz.prog) W2 89 9 5 ⟨w.heap.size,0,none⟩ cap l2 Tryz.underlying89 Tryz.underlying5 Tryz.underlying9 (fun j hj=>by
  have hj2:j<l.length:=by rw[HL.o] at hj;omega
  have e1:(⟨w.heap.size,0,none⟩:Addr).add j=⟨w.heap.size,j,none⟩:=by unfold Addr.add;split<;>simp_all
  rw[e1,zJ1 W2 _ j _ _ _ HS.o]
  have h2:=HCL.o j (by omega)
  rw[zL hj] at h2
  rw[Array.getElem?_setIfInBounds]
  by_cases e:j=q
  ·subst e
   rw[zM1 rfl] at h2
   have:j<(bytesRow ⟨l.toArray⟩ cap).size:=by omega
   simp only[zB1] at h2
   simp[this,h2]
  ·rw[zL1 e,zL hj2] at h2
   simp only[zB1] at h2
   rw[zL1 (Ne.symm e),HC.o j hj2,h2])
 rw[HL.o] at hcb;go_wp2;go_ret;exact⟨by rw[HX.o];rfl,HBl2.o⟩
end
end Go.Proofs.YtbmkaekimccdgaaGreatDoor
namespace Stl
theorem qMg (U:List Bool)(i:Nat)(h:i<U.length):uO 0 (U.take (i+1))=uO 0 (U.take i)++(if U[i]=true then [i] else []):=by
 rw[zn h,qA4];congr 1;simp only[zv,List.length_take,Nat.min_eq_left (Nat.le_of_lt h)]
 cases U[i]<;>rfl
theorem qGQ:∀ (U:List Bool) (i:Nat),(uO i U).length≤U.length
 | [],_=>by simp[uO]
 | true::r,i=>by have:=qGQ r (i+1);simp[uO];omega
 | false::r,i=>by have:=qGQ r (i+1);simp[uO];omega
end Stl
namespace Go.Proofs.YtbmkaekimccdgaaGreatDoor
open Go.RowKit Go.Sort Stl
section
variable {w:World}{c:Nat→Col}{b:Nat}{U:List Bool}
theorem qLr (h:SpaceAt w c b U)(hU:U.length≤1000000) :
  Calls Tryz.prog 245 #[.pointer (some ⟨b,0,none⟩)] w fun e w'=>∃ A cap,e=.returned (.slice A (ons U).length cap)∧w'.ownsRow w.heap.size 3 1 (.slice A (ons U).length cap) (ons U).length ((ons U).map dW)∧Below w.heap.size w w':=by
 obtain⟨v,hb,hc,hr⟩:=h;obtain⟨A,cap,rfl⟩:=hr.slice;have c0:=ce0 hb;have HR:=Hh hr;obtain⟨i0,hi,hz0,hz1,hz2⟩:=qGD.info;have Hi:=Hh hi;have Hz0:=Hh hz0;have Hz1:=Hh hz1;have Hz2:=Hh hz2;clear hb hr hi hz0 hz1 hz2;go_enter Tryz.func245,Tryz.ntmps245;go_wp2_with fail;clear c0
 go_loopw [3,11] (fun v a wr=>∃ i:Nat,i≤U.length∧a=.int .i64 i∧Hg (wr.ownsRow w.heap.size 3 1 v (uO 0 (U.take i)).length ((uO 0 (U.take i)).map dW))∧Hg (Below w.heap.size w wr)) (fun _ a _=>U.length-(intOf a).toNat)
 case atStart=>exact⟨0,zw _,rfl,Hh (zF1 _ _ _ _),Hh (zB _ _)⟩
 case round =>
  obtain⟨i,hi,rfl,HO,HB⟩:=hrel;obtain⟨A2,c2,rfl⟩:=Stl.owns_slice _ HO.o;by_cases hil:i<U.length
  ·have i1:(i:Int)<(U.length:Int):=by omega
   have i2:(0:Int)≤(i:Int):=by omega
   obtain⟨g,cap',e2,hg,hgl,_,_⟩:=HR.o.pos (by omega);simp only[zC1] at e2;obtain⟨rfl,_,rfl⟩:=e2;have q0:wr.cell? ⟨g,i,none⟩=some (.bool U[i]):=by
    rw[HB.o.cell (p:=⟨g,i,none⟩) hgl,HR.o.cellAt i (by omega)];simp[hil]
   have HT:=Hh (qMg U i hil);have hle:(uO 0 (U.take i)).length≤i:=zq (qGQ _ _) (by simp;omega);generalize uO 0 (U.take i)=l at *
   cases hu:U[i] with
   | true =>
    rw[hu] at q0 HT;clear hu;go_wp2_with (at_builtin;refine Stl.wpList_app _ rfl _ _ 220 rfl w.heap.size 3 i0 (.int .i64 0) 1 8 Tryz.underlying220 Hi.o Hz0.o Hz1.o Hz2.o rfl (by decide) _ _ _ rfl (HO.o.alloc _) (some ⟨wr.heap.size,0,none⟩) 1 1 [.int .i64 i] rfl rfl (fun h=>by cases h) (jD _ _ _) (by simp[Value.oneCell']) (by unfold maxLen;omega) (by omega) (by have:=HB.o.size;simp;omega) ?_;intro A4 c4 w4 hown4 hgrow hat4);have HO4:=Hh hown4;have HB4:=Hh (((HB.o.alloc HB.o.size (.cells #[.int .i64 i] 3))).grown hgrow (by have:=HB.o.size;simp;omega) (fun k hk=>(HO.o.lt k hk).1));clear hown4 hgrow hat4;go_roundw
    case rel =>
     refine⟨i+1,hil,by go_num,Hh ?_,HB4⟩;rw[HT.o];simpa using HO4.o
    case measure=>simp[intOf];omega
   | false =>
    rw[hu] at q0 HT;clear hu;go_wp2;go_roundw
    case rel =>
     refine⟨i+1,hil,by go_num,Hh ?_,HB⟩;rw[HT.o];simpa using HO.o
    case measure=>simp[intOf];omega
  ·have i1:¬ (i:Int)<(U.length:Int):=by omega
   have hT:U.take i=U:=zm (by omega);have HT:=Hh (show uO 0 (U.take i)=ons U by rw[hT];rfl);clear hT;go_wp2;go_ret;refine⟨A2,c2,?_,?_,HB.o⟩
   ·rw[← HT.o];rfl
   ·rw[← HT.o];exact HO.o
theorem qE3 (h:SpaceAt w c b U)(hU:U.length≤1000000) :
  Calls Tryz.prog 188 #[.pointer (some ⟨b,0,none⟩)] w fun e w'=>e=.returned (.int .i64 (uZ U).length)∧Below w.heap.size w w':=by
 have H:=Hh h;obtain⟨v,hb,hc,hr⟩:=h;obtain⟨A,cap,rfl⟩:=hr.slice;have hbl:=qA hb;have c0:=ce0 hb;have hlen:(ons U).length+(uZ U).length=U.length:=xL U 0;clear hb hr;go_enter Tryz.func188,Tryz.ntmps188;go_upto_region 1 with fail;have HD:=Hh (H.o.ext ((Ext.refl w c S0).drew) rfl rfl)
 go_region_held3 (fun w'=>w'.cell? ⟨b,0,none⟩=some (.slice A U.length cap))
  (first
   | go_keep)
  (first
   | (go_at_call 245;refine(qLr HD.o hU).mono ?_;rintro ev w2 ⟨Au,cu,rfl,hou,hbu⟩;have c0':=(hbu.cell (p:=⟨b,0,none⟩) hbl).trans c0))
 have HB:=Hh (show Below w.heap.size w w2 from ⟨hbu.os,hbu.tape,hbu.output,hbu.size,hbu.block⟩);clear hbu hou c0';have HW:=Hh (show IntKind.i64.wrap ((U.length:Int)-((ons U).length:Int))=((uZ U).length:Int) by rw[wrap_i64 (by omega) (by omega)];omega);go_wp2;go_ret;exact⟨by rw[← HW.o];rfl,HB.o⟩
end
end Go.Proofs.YtbmkaekimccdgaaGreatDoor
