/- Texts of this claim, merged: MapWalk, RepsA, App, Row, Sum. -/
import Derived.Deep.AppendLies
import Derived.Maps.AppendAt
import Derived.RegionTactic
import Derived.Sort.EncStr
import Derived.Tactics
import Derived.Test.YthogfjmnnaoldaaGreatDoorProg
import Derived.Test.YthogfjmnnaoldaaGreatDoorGm03
set_option maxHeartbeats 16000000
set_option maxRecDepth 1000000
set_option linter.all false
namespace Stl
open Go Go.Maps
structure qEH {α:Type} (P:Program) (k:TypeId) (mk:α→Value) (key:α→Lit) (ok:α→Prop):Prop where
 keyed:Keyed P k
 of:∀ x,ok x→keyOf P k (mk x)=some (key x)
 inj:∀ a b,key a=key b→a=b
def MapAt {α:Type} (P:Program) (k:TypeId) (key:α→Lit) (w:World) (b n:Nat) (f:α→Option Value):Prop:=∃ D:DataW Value,w.ownsMap P k qCf b n D∧MapIs key D f
def RangeAt {α:Type} (P:Program) (k:TypeId) (key:α→Lit) (w:World) (b r n:Nat) (f:α→Option Value) (left:α→Bool) (cnt:Nat):Prop :=
 ∃ (D:DataW Value) (L:Lit→Bool),w.ranges P k qCf b r n D L cnt∧MapIs key D f∧∀ x,L (key x)=left x
theorem qEY:∀ (a b:List Lit),a.Pairwise (·≠·)→(∀ x∈a,x∈b)→a.length≤b.length
 | [],_,_,_=>zy _
 | x::r,b,hp,h=>by
  obtain ⟨h1,h2⟩:=zk.1 hp
  have hx:=h x (by simp)
  obtain ⟨l,m,rfl⟩:=List.append_of_mem hx
  have:=qEY r (l++m) h2 (fun y hy=>by
   have:=h y (by simp [hy])
   simp only [zZ,za] at this ⊢
   rcases this with h3 | h3 | h3
   ·exact .inl h3
   ·exact absurd h3.symm (h1 y hy)
   ·exact .inr h3)
  simp at this ⊢
  omega
section
variable {α:Type} {P:Program} {k e t:TypeId} {mk:α→Value} {key:α→Lit} {ok:α→Prop} {w:World} {b n:Nat} {f:α→Option Value}
theorem MapAt.lt (h:MapAt P k key w b n f):b<w.heap.size:=by obtain ⟨D,h1,_⟩:=h;exact h1.lt
theorem MapAt.mono (h:MapAt P k key w b n f) {m:Nat} (hm:n≤m):MapAt P k key w b m f:=by obtain ⟨D,h1,h2⟩:=h;exact ⟨D,h1.mono hm,h2⟩
theorem MapAt.congr {g:α→Option Value} (h:MapAt P k key w b n f) (e:∀ x,g x=f x):MapAt P k key w b n g:=by obtain ⟨D,h1,h2⟩:=h;exact ⟨D,h1,h2.congr e⟩
theorem MapAt.kept {w':World} {row:Option Nat} (h:MapAt P k key w b n f) (hg:w.grownBy w' row) (hne:some b≠row):MapAt P k key w' b n f:=by obtain ⟨D,h1,h2⟩:=h;exact ⟨D,h1.kept hg hne,h2⟩
theorem MapAt.of_block {w':World} (h:MapAt P k key w b n f) (hb:w'.heap[b]?=w.heap[b]?):MapAt P k key w' b n f:=by
 obtain ⟨D,⟨es,clock,h0,F,hs,hD⟩,h2⟩:=h
 exact ⟨D,⟨es,clock,hb.trans h0,F,hs,hD⟩,h2⟩
theorem MapAt.made (w:World) (P:Program) (k:TypeId) (key:α→Lit):MapAt P k key (w.alloc (.map #[] 0)) w.heap.size 0 (fun _=>none):=⟨_,World.ownsMap_made w P k qCf,MapIs.empty⟩
theorem MapAt.ext {w':World} {c c2:Nat→Col} {S:Col→Bool} (h:MapAt P k key w b n f) (e:Ext w w' c c2 S) {x:Col} (hc:c b=x) (hS:S x=false):MapAt P k key w' b n f :=
 h.of_block (e.keep b h.lt (by rw [hc];exact hS)).1
theorem MapAt.tight (h:MapAt P k key w b n f) (K:Keyed P k) (l:List α) (hl:∀ x,(f x).isSome=true→x∈l):MapAt P k key w b l.length f:=by
 obtain ⟨D,h1,h2⟩:=h
 obtain ⟨es',hD,hp,hk⟩:=h1.entries K
 obtain ⟨es,clock,hb,F,hs,hE⟩:=h1
 refine ⟨D,⟨es,clock,hb,F,?_,hE⟩,h2⟩
 have e1:es.size=es'.length:=by
  rw [hE] at hD
  simp only [DataW.map.injEq] at hD
  rw [← hD,length_sorted]
  simp
 rw [e1]
 have:=qEY (es'.map (·.1)) (l.map key) (List.pairwise_map.2 hp) (fun x hx=>by
  obtain ⟨p,hp,rfl⟩:=zf.1 hx
  have hh:has D p.1=true:=by
   rw [hD,has_eq]
   exact List.any_eq_true.2 ⟨p,hp,WideAt.sameKey_self (hk p hp)⟩
  obtain ⟨y,v,h3,h4⟩:=h2.has_ _ hh
  rw [h3]
  exact zf.2 ⟨y,hl y (by rw [h4];rfl),rfl⟩)
 simpa using this
theorem MapAt.getOk (h:MapAt P k key w b n f) (K:qEH P k mk key ok) (ht:P.underlying t=some (.map k e)) {z:Value} (hz:(zeroValue e).run P w=.ok z w) {i:α} (hi:ok i) :
  (Instr.lookup t (.map (some b)) (mk i) true).run P w=.ok (.tuple #[(f i).getD z,.bool (f i).isSome]) w:=by
 obtain ⟨D,h1,h2⟩:=h
 obtain ⟨v,ps,hr,hv⟩:=h1.look_ok K.keyed ht hz (zd:=.held z) (zp:=[]) rfl (K.of i hi)
 rw [h2.look i z] at hv
 simp only [qCf,zC1,Prod.mk.injEq,DataW.held.injEq] at hv
 rw [hr,hv.1,h2.has_eq i]
theorem MapAt.get (h:MapAt P k key w b n f) (K:qEH P k mk key ok) (ht:P.underlying t=some (.map k e)) {z:Value} (hz:(zeroValue e).run P w=.ok z w) {i:α} (hi:ok i) :
  (Instr.lookup t (.map (some b)) (mk i) false).run P w=.ok ((f i).getD z) w:=by
 obtain ⟨D,h1,h2⟩:=h
 obtain ⟨v,ps,hr,hv⟩:=h1.lookup K.keyed ht hz (zd:=.held z) (zp:=[]) rfl (K.of i hi)
 rw [h2.look i z] at hv
 simp only [qCf,zC1,Prod.mk.injEq,DataW.held.injEq] at hv
 rw [hr,hv.1]
theorem MapAt.put [DecidableEq α] (h:MapAt P k key w b n f) (K:qEH P k mk key ok) (ht:P.underlying t=some (.map k e)) (hn:n<maxLen) {i:α} (hi:ok i) (v:Value) :
  ∃ w',(Instr.mapUpdate t (.map (some b)) (mk i) v).run P w=.ok () w'∧MapAt P k key w' b (n+1) (fun j=>if j=i then some v else f j)∧w.mapTurned w' b:=by
 obtain ⟨D,h1,h2⟩:=h
 obtain ⟨w',hr,h3,h4⟩:=h1.store K.keyed ht hn (K.of i hi) (val:=v) (d:=.held v) (ps:=[]) rfl
 exact ⟨w',hr,⟨_,h3,h2.put K.inj i (K.keyed.key (K.of i hi)) v⟩,h4⟩
theorem MapAt.del [DecidableEq α] (h:MapAt P k key w b n f) (K:qEH P k mk key ok) (ht:P.underlying t=some (.map k e)) {i:α} (hi:ok i) (ty:TypeId) :
  ∃ w',(Builtin.delete_ #[t,k] ty #[.map (some b),mk i]).run P w=.ok (.tuple #[]) w'∧MapAt P k key w' b n (fun j=>if j=i then none else f j)∧w.mapTurned w' b:=by
 obtain ⟨D,h1,h2⟩:=h
 obtain ⟨w',hr,h3,h4⟩:=h1.drop K.keyed ht (K.of i hi) ty
 exact ⟨w',hr,⟨_,h3,h2.del K.inj i⟩,h4⟩
theorem qBd [DecidableEq α] {ops:Array Oper} {rest:List Oper} {o:Oper} {a:Act} {Q:Exit→Act→World→Prop} (hg:o.guard=none) (m x y:Operand) (t e:TypeId) (hop:o.op=Op.mapUpdate t m x y) (K:qEH P k mk key ok) (ht:P.underlying t=some (.map k e))
  (hm:a.eval m=.map (some b)) (hown:MapAt P k key w b n f) (hn:n<maxLen) (i:α) (hi:ok i) (hx:a.eval x=mk i) (v:Value) (hv:a.eval y=v)
  (hK:∀ w',MapAt P k key w' b (n+1) (fun j=>if j=i then some v else f j)→w.mapTurned w' b→wpList P ops Q rest (a.put o.dst undef) w'):wpList P ops Q (o::rest) a w:=by
 refine wpList_plain hg fun K' hK'=>?_
 obtain ⟨w',hrun,r1,r2⟩:=hown.put K ht hn hi v
 unfold Oper.wp
 simp [execOp,hop,hm,hx,hv,hrun,Result.andThen]
 exact hK' _ _ (hK w' r1 r2)
theorem qEC [DecidableEq α] {ops:Array Oper} {rest:List Oper} {o:Oper} {a:Act} {Q:Exit→Act→World→Prop} (hg:o.guard=none) (m x:Operand) (t e:TypeId) (hop:o.op=Op.call { callee:=Callee.builtin Builtin.delete,args:=#[m,x],argTypes:=#[t,k] }) (K:qEH P k mk key ok) (ht:P.underlying t=some (.map k e))
  (hm:a.eval m=.map (some b)) (hown:MapAt P k key w b n f) (i:α) (hi:ok i) (hx:a.eval x=mk i)
  (hK:∀ w',MapAt P k key w' b n (fun j=>if j=i then none else f j)→w.mapTurned w' b→wpList P ops Q rest (a.put o.dst (.tuple #[])) w'):wpList P ops Q (o::rest) a w:=by
 refine wpList_plain hg fun K' hK'=>?_
 obtain ⟨w',hrun,r1,r2⟩:=hown.del K ht hi o.type
 unfold Oper.wp
 simp [execOp,hop,resolve,invoke,builtin,hm,hx,hrun,Result.andThen]
 exact hK' _ _ (hK w' r1 r2)
theorem Ext.turned {w w':World} {c:Nat→Col} {b:Nat} {x:Col} (h:w.mapTurned w' b) (hc:c b=x):Ext w w' c c (S1 x) :=
 (Ext.refl w c (S1 x)).grown h.grown (fun k hk _=>by injection hk with hk;rw [← hk,hc];simp [S1])
theorem qOX {D:DataW Value} {L:Lit→Bool} {r cnt:Nat} (h:w.ranges P k qCf b r n D L cnt) (K:Keyed P k) {l:Lit} (hl:L l=true):has D l=true:=by
 obtain ⟨es,clock,since,seen,c0,hb,F,hs,rfl,hr,hold,rfl,hl1,hl2,hsc,hsk⟩:=h
 obtain ⟨x,hx,rfl⟩:=hl2 l hl
 obtain ⟨y,hy⟩:=F.reads x hx
 exact List.any_eq_true.2 ⟨WideElems.rg P k qCf x,mem_sorted.2 (zf.2 ⟨x,hx,rfl⟩),WideAt.sameKey_self (by rw [WideElems.rg_of hy];exact K.key (WideElems.rd_key hy))⟩
theorem RangeAt.at_ {r cnt:Nat} {left:α→Bool} (h:RangeAt P k key w b r n f left cnt):MapAt P k key w b n f:=by obtain ⟨D,L,h1,h2,_⟩:=h;exact ⟨D,h1.owns,h2⟩
theorem RangeAt.left_eq {r cnt:Nat} {left:α→Bool} (h:RangeAt P k key w b r n f left cnt):w.rangeLeft b r=cnt:=by obtain ⟨D,L,h1,_⟩:=h;exact h1.left_eq
theorem RangeAt.kept {w':World} {r cnt:Nat} {left:α→Bool} {row:Option Nat} (h:RangeAt P k key w b r n f left cnt) (hg:w.grownBy w' row) (hb:some b≠row) (hr:some r≠row):RangeAt P k key w' b r n f left cnt:=by
 obtain ⟨D,L,h1,h2⟩:=h
 exact ⟨D,L,h1.kept hg hb hr,h2⟩
theorem RangeAt.of_blocks {w':World} {r cnt:Nat} {left:α→Bool} (h:RangeAt P k key w b r n f left cnt) (hb:w'.heap[b]?=w.heap[b]?) (hr:w'.heap[r]?=w.heap[r]?):RangeAt P k key w' b r n f left cnt:=by
 obtain ⟨D,L,⟨es,clock,since,seen,c0,h1,F,hs,hD,h2,rest⟩,h3⟩:=h
 exact ⟨D,L,⟨es,clock,since,seen,c0,hb.trans h1,F,hs,hD,hr.trans h2,rest⟩,h3⟩
theorem RangeAt.lt {r cnt:Nat} {left:α→Bool} (h:RangeAt P k key w b r n f left cnt):r<w.heap.size:=by obtain ⟨D,L,h1,_⟩:=h;exact h1.lt
theorem qBW {ops:Array Oper} {rest:List Oper} {o:Oper} {a:Act} {Q:Exit→Act→World→Prop} (hg:o.guard=none) (m:Operand) (t e:TypeId) (hop:o.op=Op.range t m) (K:qEH P k mk key ok) (ht:P.underlying t=some (.map k e))
  (hm:a.eval m=.map (some b)) (hown:MapAt P k key w b n f)
  (hK:∀ w' cnt,RangeAt P k key w' b w.heap.size n f (fun x=>(f x).isSome) cnt→w.grownBy w' none→w'.heap.size=w.heap.size+1→wpList P ops Q rest (a.put o.dst (.pointer (some ⟨w.heap.size,0,none⟩))) w') :
  wpList P ops Q (o::rest) a w:=by
 obtain ⟨D,h1,h2⟩:=hown
 exact wpList_range_own w hg m t hop k e K.keyed ht qCf b n D hm h1 (fun w' hr hg' hs=>hK w' _ ⟨D,has D,hr,h2,h2.has_eq⟩ hg' hs)
theorem qCp [DecidableEq α] {ops:Array Oper} {rest:List Oper} {o:Oper} {a:Act} {Q:Exit→Act→World→Prop} (hg:o.guard=none) (it:Operand) (hop:o.op=Op.next it false) (K:qEH P k mk key ok) {r cnt:Nat} {left:α→Bool} (hok:∀ x,(f x).isSome=true→ok x)
  (hit:a.eval it=.pointer (some ⟨r,0,none⟩)) (h:RangeAt P k key w b r n f left cnt)
  (hDone:(∀ x,left x=false)→wpList P ops Q rest (a.put o.dst (.tuple #[.bool false])) w)
  (hMore:∀ (x:α) (v:Value) (w':World) (cnt':Nat),left x=true→f x=some v→RangeAt P k key w' b r n f (fun y=>left y&&decide (y≠x)) cnt'→cnt'<cnt→w.grownBy w' (some r)→w'.heap.size=w.heap.size →
   (Instr.entry (.pointer (some ⟨r,0,none⟩))).run P w'=.ok (.tuple #[mk x,v]) w'→wpList P ops Q rest (a.put o.dst (.tuple #[.bool true,mk x,v])) w') :
  wpList P ops Q (o::rest) a w:=by
 have h0:=h
 obtain ⟨D,L,h1,h2,h3⟩:=h
 refine wpList_plain hg fun K' hK'=>?_
 unfold Oper.wp
 rcases h1.next K.keyed o.type with ⟨h4,hl,hrun⟩ | ⟨kv,v,kl,y,w',cnt',hkey,hlk,hv,hat,hrun,hrg,hlt,hgr,hsz,hen⟩
 ·simp [execOp,hop,hit,hrun,Result.andThen]
  exact hK' _ _ (hDone (fun x=>by rw [← h3];exact hl _))
 ·obtain ⟨x,u,rfl,hfx⟩:=h2.has_ kl (qOX h1 K.keyed hlk)
  have hok':=hok x (by rw [hfx];rfl)
  have e1:kv=mk x:=K.keyed.inj hkey (K.of x hok')
  subst e1
  have e2:u=v:=by
   have h5:=hat (.held .nilIface)
   rw [h2.at_ x u hfx] at h5
   simp only [qCf,zC1] at hv
   rw [← hv] at h5
   simpa using h5
  subst e2
  simp [execOp,hop,hit,hrun,Result.andThen]
  refine hK' _ _ (hMore x u w' cnt' (by rw [← h3];exact hlk) hfx ⟨D,_,hrg,h2,fun z=>?_⟩ hlt hgr hsz hen)
  simp only [h3]
  congr 1
  by_cases hz:z=x
  ·subst hz
   simp [WideAt.sameKey_self (K.keyed.key (K.of z hok'))]
  ·have:key z≠key x:=fun e=>hz (K.inj _ _ e)
   simp [Maps.sameKey_ne this,hz]
end
def mkN (n:Nat):Value:=.int .i64 n
def mkS (s:List UInt8):Value:=.string ⟨s.toArray⟩
theorem qQR {P:Program} {k:TypeId} (hk:P.underlying k=some (.int .i64)):qEH P k mkN qKq (fun n=>n≤4611686018427387904) :=
 ⟨int_keyed hk,fun n hn=>keyOf_int_mk hk (by
  have h1:IntKind.i64.min=-9223372036854775808:=by decide
  have h2:IntKind.i64.max=9223372036854775807:=by decide
  simp [Lit.wf,h1,h2]
  omega),qOd⟩
theorem qQM {P:Program} {k:TypeId} (hk:P.underlying k=some .string):qEH P k mkS qLR (fun s=>s.length≤maxLen) :=
 ⟨string_keyed hk,fun s hs=>by simpa [mkS,qLR] using Go.WideMaps.keyOf_string_mk hk (s:=⟨s.toArray⟩) (by simpa [ByteArray.size] using hs),qN4⟩
end Stl
namespace Go.Proofs.YthogfjmnnaoldaaGreatDoor
open Go.RowKit Go.Sort Stl
abbrev qJq (n:Nat):Value:=.int .i64 n
abbrev qPS (x:Nat×List UInt8):List Value:=[.int .i64 x.1,.string ⟨x.2.toArray⟩]
def RoInts (w:World) (c:Nat→Col) (A:Option Addr) (l:List Nat):Prop :=
 l≠[]→∃ b off,A=some ⟨b,off,none⟩∧b<w.heap.size∧c b=.ro∧∀ (j:Nat) x,l[j]?=some x→w.cell? ⟨b,off+j,none⟩=some (.int .i64 x)
section
variable {w w2:World} {c c2:Nat→Col} {S:Col→Bool}
theorem RoInts.ext {A:Option Addr} {l:List Nat} (h:RoInts w c A l) (e:Ext w w2 c c2 S) (h1:S .ro=false):RoInts w2 c2 A l:=fun hn=>by
 obtain ⟨b,off,ha,hb,hc,hj⟩:=h hn
 exact ⟨b,off,ha,zv hb e.size,e.col hb hc h1,fun j x hx=>(zE1 (w:=w) (a:=⟨b,off+j,none⟩) (e.keep b hb (by rw [hc];exact h1)).1).trans (hj j x hx)⟩
def RowAt (w:World) (c:Nat→Col) (x:Col) (e:TypeId) (size:Nat) (v:Value) (n:Nat) (xs:List Value):Prop:=w.ownsRow 0 e size v n xs∧∀ k,v.ownBlock=some k→c k=x
theorem RowAt.ext {x:Col} {e:TypeId} {size:Nat} {v:Value} {n:Nat} {xs:List Value} (h:RowAt w c x e size v n xs) (ex:Ext w w2 c c2 S) (hS:S x=false):RowAt w2 c2 x e size v n xs:=ex.row h.1 h.2 hS
theorem RowAt.slice {x:Col} {e:TypeId} {size:Nat} {v:Value} {n:Nat} {xs:List Value} (h:RowAt w c x e size v n xs):∃ A cap,v=.slice A n cap:=by
 rcases h.1.2 with ⟨rfl,rfl⟩ | ⟨g,cap,cur,rfl,_⟩
 ·exact ⟨none,0,rfl⟩
 ·exact ⟨_,_,rfl⟩
theorem RowAt.pos {x:Col} {e:TypeId} {size:Nat} {v:Value} {n:Nat} {xs:List Value} (h:RowAt w c x e size v n xs) (hn:0<n):∃ g cap,v=.slice (some ⟨g,0,none⟩) n cap∧c g=x∧g<w.heap.size∧n≤cap∧cap≤maxLen:=by
 rcases h.1.2 with ⟨rfl,rfl⟩ | ⟨g,cap,cur,rfl,h1,h2,h3,h4,_⟩
 ·omega
 ·exact ⟨g,cap,rfl,h.2 g rfl,qAa h2,h3,h4⟩
theorem RowAt.of_owns {x:Col} {e:TypeId} {size:Nat} {v:Value} {n:Nat} {xs:List Value} {base:Nat} (h:w.ownsRow base e size v n xs) (hc:∀ k,v.ownBlock=some k→c k=x):RowAt w c x e size v n xs:=by
 refine ⟨⟨h.1,?_⟩,hc⟩
 rcases h.2 with h1 | ⟨g,cap,cur,h1,_,h2⟩
 ·exact .inl h1
 ·exact .inr ⟨g,cap,cur,h1,zy _,h2⟩
def DiskAt (w:World) (c:Nat→Col) (b:Nat) (D:List (List UInt8)):Prop :=
 ∃ v,w.heap[b]?=some (.cells #[v,.slice none 0 0] 87 (0,0))∧c b=.disk∧RowAt w c .diskL 9 1 v D.length (D.map encStr)
theorem DiskAt.ext {b:Nat} {D:List (List UInt8)} (h:DiskAt w c b D) (e:Ext w w2 c c2 S) (h1:S .disk=false) (h2:S .diskL=false):DiskAt w2 c2 b D:=by
 obtain ⟨v,hb,hc,hr⟩:=h
 exact ⟨v,(e.kept hb hc h1).1,(e.kept hb hc h1).2,hr.ext e h2⟩
def DiskW (w:World) (c:Nat→Col) (b:Nat) (D:List (List UInt8)) (W:List (Nat×List UInt8)):Prop :=
 ∃ v vw,w.heap[b]?=some (.cells #[v,vw] 87 (0,0))∧c b=.disk∧RowAt w c .diskL 9 1 v D.length (D.map encStr)∧RowAt w c .wait 217 2 vw W.length (W.flatMap qPS)
theorem DiskW.ext {b:Nat} {D:List (List UInt8)} {W:List (Nat×List UInt8)} (h:DiskW w c b D W) (e:Ext w w2 c c2 S) (h1:S .disk=false) (h2:S .diskL=false) (h3:S .wait=false):DiskW w2 c2 b D W:=by
 obtain ⟨v,vw,hb,hc,hr,hw⟩:=h
 exact ⟨v,vw,(e.kept hb hc h1).1,(e.kept hb hc h1).2,hr.ext e h2,hw.ext e h3⟩
theorem DiskAt.waits {b:Nat} {D:List (List UInt8)} (h:DiskAt w c b D):DiskW w c b D []:=by
 obtain ⟨v,hb,hc,hr⟩:=h
 exact ⟨v,_,hb,hc,hr,zG1 _ _ _ _,fun k hk=>by simp [Value.ownBlock] at hk⟩
def SpaceAt (w:World) (c:Nat→Col) (b:Nat) (U:List Bool):Prop :=
 ∃ v,w.heap[b]?=some (.cells #[v] 134 (0,0))∧c b=.space∧RowAt w c .used 4 1 v U.length (U.map Value.bool)
theorem SpaceAt.ext {b:Nat} {U:List Bool} (h:SpaceAt w c b U) (e:Ext w w2 c c2 S) (h1:S .space=false) (h2:S .used=false):SpaceAt w2 c2 b U:=by
 obtain ⟨v,hb,hc,hr⟩:=h
 exact ⟨v,(e.kept hb hc h1).1,(e.kept hb hc h1).2,hr.ext e h2⟩
def qAB (x:Ino) (A:Option Addr) (cap:Nat):Array Value:=#[.int .i64 x.bytes,.int .i64 x.links,.bool x.exec,.slice A x.blocks.length cap,.int .u32 x.sum.toNat]
def InoAt (w:World) (c:Nat→Col) (b k:Nat) (x:Ino):Prop :=
 ∃ A cap,w.heap[b]?=some (.cells (qAB x A cap) 191 (0,0))∧c b=.stat k∧x.blocks.length≤cap∧RoInts w c A x.blocks
theorem InoAt.ext {b k:Nat} {x:Ino} (h:InoAt w c b k x) (e:Ext w w2 c c2 S) (h1:S (.stat k)=false) (h2:S .ro=false):InoAt w2 c2 b k x:=by
 obtain ⟨A,cap,hb,hc,hl,hr⟩:=h
 exact ⟨A,cap,(e.kept hb hc h1).1,(e.kept hb hc h1).2,hl,hr.ext e h2⟩
abbrev qCR (w:World) (b n:Nat) (f:Nat→Option Value):Prop:=MapAt Tryz.prog 3 qKq w b n f
abbrev qBh (w:World) (b n:Nat) (f:List UInt8→Option Value):Prop:=MapAt Tryz.prog 9 qLR w b n f
theorem okN:qEH Tryz.prog 3 mkN qKq (fun n=>n≤4611686018427387904):=qQR Tryz.underlying3
theorem okS:qEH Tryz.prog 9 mkS qLR (fun s=>s.length≤maxLen):=qQM Tryz.underlying9
def qAH (T:Tab) (st:Nat→Nat) (k:Nat):Option Value:=(T.at_ k).map fun _=>.pointer (some ⟨st k,0,none⟩)
structure TabIn (w:World) (c:Nat→Col) (b:Nat) (T:Tab) (bd bs bm:Nat) (st:Nat→Nat):Prop where
 own:w.heap[b]?=some (.cells #[.pointer (some ⟨bd,0,none⟩),.pointer (some ⟨bs,0,none⟩),.map (some bm)] 94 (0,0))
 col:c b=.tab
 disk:DiskAt w c bd T.disk
 space:SpaceAt w c bs (qAU T)
 mcol:c bm=.tabMap
 map:qCR w bm T.l.length (qAH T st)
 stats:∀ k x,T.at_ k=some x→InoAt w c (st k) k x
def TabAt (w:World) (c:Nat→Col) (b:Nat) (T:Tab):Prop:=∃ bd bs bm st,TabIn w c b T bd bs bm st
def qLY:Col→Bool
 | .tab | .tabMap | .stat _ | .space | .used | .disk | .diskL | .wait=>true
 | _=>false
theorem TabIn.ext {b:Nat} {T:Tab} {bd bs bm:Nat} {st:Nat→Nat} (h:TabIn w c b T bd bs bm st) (e:Ext w w2 c c2 S) (h0:S .ro=false) (h1:∀ x,qLY x=true→S x=false):TabIn w2 c2 b T bd bs bm st :=
 ⟨(e.kept h.own h.col (h1 _ rfl)).1,(e.kept h.own h.col (h1 _ rfl)).2,h.disk.ext e (h1 _ rfl) (h1 _ rfl),h.space.ext e (h1 _ rfl) (h1 _ rfl),e.col h.map.lt h.mcol (h1 _ rfl),h.map.ext e h.mcol (h1 _ rfl),fun k x hk=>(h.stats k x hk).ext e (h1 _ rfl) h0⟩
theorem TabAt.ext {b:Nat} {T:Tab} (h:TabAt w c b T) (e:Ext w w2 c c2 S) (h0:S .ro=false) (h1:∀ x,qLY x=true→S x=false):TabAt w2 c2 b T:=by
 obtain ⟨bd,bs,bm,st,h⟩:=h
 exact ⟨bd,bs,bm,st,h.ext e h0 h1⟩
theorem TabIn.below {b:Nat} {T:Tab} {bd bs bm:Nat} {st:Nat→Nat} (h:TabIn w c b T bd bs bm st) (hb:Below w.heap.size w w2):TabIn w2 c b T bd bs bm st:=h.ext (Ext.of_below hb c S0) rfl (fun _ _=>rfl)
theorem TabAt.below {b:Nat} {T:Tab} (h:TabAt w c b T) (hb:Below w.heap.size w w2):TabAt w2 c b T:=h.ext (Ext.of_below hb c S0) rfl (fun _ _=>rfl)
end
end Go.Proofs.YthogfjmnnaoldaaGreatDoor
namespace Stl
open Go
section
variable {P:Program} (w:World)
theorem owns_slice {base:Nat} {e:TypeId} {size:Nat} {v:Value} {n:Nat} {xs:List Value} (h:w.ownsRow base e size v n xs):∃ A c,v=.slice A n c:=by
 rcases h.2 with ⟨rfl,rfl⟩ | ⟨g,cap,cur,rfl,_⟩
 ·exact ⟨none,0,rfl⟩
 ·exact ⟨_,_,rfl⟩
theorem qQm (base:Nat) (t ty e:TypeId) (i:TypeInfo) (z:Value) (size bytes:Nat) (ht:P.underlying t=some (.slice e)) (hi:P.info? e=some i) (hz:i.zero=some z)
  (hsize:i.size=size) (hby:i.bytes=bytes) (hzs:z.cells.size=size) (hsz:0<size)
  (v:Value) (n:Nat) (xs:List Value) (hown:w.ownsRow base e size v n xs)
  (A:Option Addr) (m c:Nat) (news:List Value) (hl:news.length=m*size) (hA:A=none→m=0∧c=0) (hnews:∀ ad,A=some ad→∀ j u,news[j]?=some u→w.cell? (ad.add j)=some u) (h1:∀ u∈news,u.oneCell'=true)
  (h63:n+m≤maxLen) (hbytes:(n+m)*bytes≤140737488355328) (hbase:base≤w.heap.size) :
  ∃ A' c' w',(Builtin.append_ #[t,t] ty #[v,.slice A m c]).run P w=.ok (.slice A' (n+m) c') w'∧w'.ownsRow base e size (.slice A' (n+m) c') (n+m) (xs++news)∧w.grownBy w' v.ownBlock ∧
   ((Value.slice A' (n+m) c').ownBlock=v.ownBlock∨(Value.slice A' (n+m) c').ownBlock=some w.heap.size):=by
 cases A with
 | none =>
  obtain ⟨rfl,rfl⟩:=hA rfl
  obtain rfl:news=[]:=zI (by simpa using hl)
  obtain ⟨A',c',rfl⟩:=owns_slice w hown
  refine ⟨A',c',w,run_append_owned_none (P:=P) (w:=w) base t ty e i size ht hi _ n xs hown,by simpa using hown,⟨rfl,rfl,rfl,zr _,fun _ _ _=>rfl⟩,.inl rfl⟩
 | some ad =>
  obtain ⟨v',w',hr,h2,h3,_,h5⟩:=run_append_own_at (P:=P) w base t ty e i z size bytes ht hi hz hsize hby hzs hsz v n xs hown ad m c news hl (hnews ad rfl) h1 h63 hbytes hbase
  obtain ⟨A',c',rfl⟩:=owns_slice w' h2
  exact ⟨A',c',w',hr,h2,h3,h5⟩
theorem qPD {o:Oper} {a:Act} {K:Act→World→Prop} {Q:Exit→Act→World→Prop} (s x:Operand) (t:TypeId)
  (ho:o.op=.call { callee:=.builtin .append,args:=#[s,x],argTypes:=#[t,t] })
  (base:Nat) (e:TypeId) (i:TypeInfo) (z:Value) (size bytes:Nat) (ht:P.underlying t=some (.slice e)) (hi:P.info? e=some i) (hz:i.zero=some z)
  (hsize:i.size=size) (hby:i.bytes=bytes) (hzs:z.cells.size=size) (hsz:0<size)
  (v:Value) (n:Nat) (xs:List Value) (hs:a.eval s=v) (hown:w.ownsRow base e size v n xs)
  (A:Option Addr) (m c:Nat) (news:List Value) (hx:a.eval x=.slice A m c) (hl:news.length=m*size) (hA:A=none→m=0∧c=0) (hnews:∀ ad,A=some ad→∀ j u,news[j]?=some u→w.cell? (ad.add j)=some u) (h1:∀ u∈news,u.oneCell'=true)
  (h63:n+m≤maxLen) (hbytes:(n+m)*bytes≤140737488355328) (hbase:base≤w.heap.size)
  (h:∀ A' c' w',w'.ownsRow base e size (.slice A' (n+m) c') (n+m) (xs++news)→w.grownBy w' v.ownBlock→((Value.slice A' (n+m) c').ownBlock=v.ownBlock∨(Value.slice A' (n+m) c').ownBlock=some w.heap.size)→K (a.put o.dst (.slice A' (n+m) c')) w'):o.wp P a w K Q:=by
 obtain ⟨A',c',w',hr,h2,h3,h4⟩:=qQm (P:=P) w base t o.type e i z size bytes ht hi hz hsize hby hzs hsz v n xs hown A m c news hl hA hnews h1 h63 hbytes hbase
 unfold Oper.wp execOp
 simp only [ho,resolve,invoke,builtin,Sem.run_bind,Sem.run_pure,Result.andThen_ok,List.map_toArray,zX,List.map_nil,hs,hx,hr]
 exact h A' c' w' h2 h3 h4
theorem wpList_app {ops:Array Oper} {rest:List Oper} {o:Oper} {a:Act} {Q:Exit→Act→World→Prop} (hgd:o.guard=none) (s x:Operand) (t:TypeId)
  (ho:o.op=.call { callee:=.builtin .append,args:=#[s,x],argTypes:=#[t,t] })
  (base:Nat) (e:TypeId) (i:TypeInfo) (z:Value) (size bytes:Nat) (ht:P.underlying t=some (.slice e)) (hi:P.info? e=some i) (hz:i.zero=some z)
  (hsize:i.size=size) (hby:i.bytes=bytes) (hzs:z.cells.size=size) (hsz:0<size)
  (v:Value) (n:Nat) (xs:List Value) (hs:a.eval s=v) (hown:w.ownsRow base e size v n xs)
  (A:Option Addr) (m c:Nat) (news:List Value) (hx:a.eval x=.slice A m c) (hl:news.length=m*size) (hA:A=none→m=0∧c=0) (hnews:∀ ad,A=some ad→∀ j u,news[j]?=some u→w.cell? (ad.add j)=some u) (h1:∀ u∈news,u.oneCell'=true)
  (h63:n+m≤maxLen) (hbytes:(n+m)*bytes≤140737488355328) (hbase:base≤w.heap.size)
  (h:∀ A' c' w',w'.ownsRow base e size (.slice A' (n+m) c') (n+m) (xs++news)→w.grownBy w' v.ownBlock→((Value.slice A' (n+m) c').ownBlock=v.ownBlock∨(Value.slice A' (n+m) c').ownBlock=some w.heap.size)→wpList P ops Q rest (a.put o.dst (.slice A' (n+m) c')) w'):wpList P ops Q (o::rest) a w :=
 wpList_plain hgd fun _ hK=>qPD w s x t ho base e i z size bytes ht hi hz hsize hby hzs hsz v n xs hs hown A m c news hx hl hA hnews h1 h63 hbytes hbase fun A' c' w' h2 h3 h4=>hK _ _ (h A' c' w' h2 h3 h4)
theorem step_app {ops:Array Oper} {o:Oper} {a:Act} {K:Act→World→Prop} {Q:Exit→Act→World→Prop} {E:Prop} (hgd:o.guard=none) (s x:Operand) (t:TypeId)
  (ho:o.op=.call { callee:=.builtin .append,args:=#[s,x],argTypes:=#[t,t] })
  (base:Nat) (e:TypeId) (i:TypeInfo) (z:Value) (size bytes:Nat) (ht:P.underlying t=some (.slice e)) (hi:P.info? e=some i) (hz:i.zero=some z)
  (hsize:i.size=size) (hby:i.bytes=bytes) (hzs:z.cells.size=size) (hsz:0<size)
  (v:Value) (n:Nat) (xs:List Value) (hs:a.eval s=v) (hown:w.ownsRow base e size v n xs)
  (A:Option Addr) (m c:Nat) (news:List Value) (hx:a.eval x=.slice A m c) (hl:news.length=m*size) (hA:A=none→m=0∧c=0) (hnews:∀ ad,A=some ad→∀ j u,news[j]?=some u→w.cell? (ad.add j)=some u) (h1:∀ u∈news,u.oneCell'=true)
  (h63:n+m≤maxLen) (hbytes:(n+m)*bytes≤140737488355328) (hbase:base≤w.heap.size)
  (h:∀ A' c' w',w'.ownsRow base e size (.slice A' (n+m) c') (n+m) (xs++news)→w.grownBy w' v.ownBlock→((Value.slice A' (n+m) c').ownBlock=v.ownBlock∨(Value.slice A' (n+m) c').ownBlock=some w.heap.size)→K (a.put o.dst (.slice A' (n+m) c')) w') :
  if Region.wanted o (yielded ops a.tmps)=true then Oper.wp P o a w K Q else E:=by
 have hw:Region.wanted o (yielded ops a.tmps)=true:=by simp [Region.wanted,hgd]
 rw [zN1 hw]
 exact qPD w s x t ho base e i z size bytes ht hi hz hsize hby hzs hsz v n xs hs hown A m c news hx hl hA hnews h1 h63 hbytes hbase h
end
end Stl
namespace Go.Proofs.YthogfjmnnaoldaaGreatDoor
open Go.RowKit Go.Sort Stl
structure qCq (e:TypeId) (z:Value) (size bytes:Nat):Prop where
 info:∃ i:TypeInfo,Tryz.prog.info? e=some i∧i.zero=some z∧i.size=size∧i.bytes=bytes
 cells:z.cells.size=size
 pos:0<size
theorem qCB {e:TypeId} {z:Value} {size bytes:Nat} (h:(Tryz.prog.info? e).map (fun i=>(i.zero,i.size,i.bytes))=some (some z,size,bytes)) (hc:z.cells.size=size) (hp:0<size):qCq e z size bytes:=by
 refine ⟨?_,hc,hp⟩
 cases hi:Tryz.prog.info? e with
 | none=>rw [hi] at h;cases h
 | some i =>
  rw [hi] at h
  simp only [zB1,zC1,Prod.mk.injEq] at h
  exact ⟨i,rfl,h.1,h.2.1,h.2.2⟩
theorem qJK:qCq 3 (.int .i64 0) 1 8:=qCB (by kernel_rfl) rfl (by decide)
theorem qEO:qCq 9 (.string ByteArray.empty) 1 16:=qCB (by kernel_rfl) rfl (by decide)
theorem qQY:qCq 217 (.agg #[.int .i64 0,.string ByteArray.empty]) 2 24:=qCB (by kernel_rfl) rfl (by decide)
theorem wrap_i64 {z:Int} (h0:-9223372036854775808≤z) (h1:z<9223372036854775808):IntKind.i64.wrap z=z:=by
 simp [IntKind.wrap,IntKind.bits,IntKind.signed]
 omega
section
variable {w w2:World} {c c2:Nat→Col} {S:Col→Bool} {x:Col} {e:TypeId} {size bytes:Nat} {v z:Value} {n:Nat} {xs:List Value}
theorem Ext.paint (w:World) {c:Nat→Col} {g:Nat} {x:Col} (h:c g=x) (y:Col):Ext w w c (qAz c g y) (S1 x) :=
 (Ext.refl w c (S1 x)).recolor fun b _ hs=>qEA fun e=>by subst e;rw [h] at hs;simp [S1] at hs
theorem RowAt.nil (w:World) (c:Nat→Col) (x:Col) (e:TypeId) (size:Nat):RowAt w c x e size (.slice none 0 0) 0 []:=⟨zG1 _ _ _ _,fun k hk=>by simp [Value.ownBlock] at hk⟩
theorem RowAt.cellAt {g cap:Nat} (h:RowAt w c x e size (.slice (some ⟨g,0,none⟩) n cap) n xs) (j:Nat) (hj:j<n*size):w.cell? ⟨g,j,none⟩=xs[j]?:=h.1.cellAt j hj
theorem RowAt.frozenAt {g cap:Nat} (h:RowAt w c x e size (.slice (some ⟨g,0,none⟩) n cap) n xs) (j:Nat):w.frozen? ⟨g,j,none⟩=false:=h.1.frozenAt j
theorem RowAt.length (h:RowAt w c x e size v n xs):xs.length=n*size:=h.1.1
theorem RowAt.stored {g cap:Nat} (h:RowAt w c x e size (.slice (some ⟨g,0,none⟩) n cap) n xs) (j:Nat) (u:Value) :
  RowAt (w.setCell ⟨g,j,none⟩ u) c x e size (.slice (some ⟨g,0,none⟩) n cap) n (xs.set j u)∧Ext w (w.setCell ⟨g,j,none⟩ u) c c (S1 x) :=
 ⟨⟨(h.1.stored j u).1,h.2⟩,(Ext.refl w c (S1 x)).setCell (fun _=>by rw [h.2 g rfl];simp [S1]) u⟩
theorem RowAt.grown (h:RowAt w c x e size v n xs) {v':Value} {m:Nat} {ys:List Value} (hown:w2.ownsRow 0 e size v' m ys) (hg:w.grownBy w2 v.ownBlock) (hat:v'.ownBlock=v.ownBlock∨v'.ownBlock=some w.heap.size) :
  RowAt w2 (qAz c w.heap.size x) x e size v' m ys∧Ext w w2 c (qAz c w.heap.size x) (S1 x):=by
 refine ⟨⟨hown,fun k hk=>?_⟩,?_⟩
 ·rcases hat with h1 | h1
  ·rw [h1] at hk
   rw [qAg (h.1.lt k hk).2 (zr _)]
   exact h.2 k hk
  ·rw [h1] at hk
   injection hk with hk
   subst hk
   exact qAl _ _ _
 ·exact ((Ext.refl w c (S1 x)).grown hg (fun k hk _=>by rw [h.2 k hk];simp [S1])).recolor fun b hb _=>qAg hb (zr _)
theorem Ext.appended {w0:World} {c0:Nat→Col} (h:Ext w0 w c0 c S) (hg:w.grownBy w2 v.ownBlock) (hn:∀ g,v.ownBlock=some g→w0.heap.size≤g) (x:Col):Ext w0 w2 c0 (qAz c w.heap.size x) S :=
 (h.grown hg (fun k hk hlt=>by have:=hn k hk;omega)).recolor fun b hb _=>qAg hb h.size
theorem qIu {w0:World} {v':Value} (hat:v'.ownBlock=v.ownBlock∨v'.ownBlock=some w.heap.size) (hn:∀ g,v.ownBlock=some g→w0.heap.size≤g) (hs:w0.heap.size≤w.heap.size):∀ g,v'.ownBlock=some g→w0.heap.size≤g:=fun g hg=>by
 rcases hat with h | h
 ·exact hn g (by rw [← h];exact hg)
 ·rw [h] at hg
  injection hg with hg
  omega
theorem qEv {ops:Array Oper} {rest:List Oper} {o:Oper} {a:Act} {Q:Exit→Act→World→Prop} (hgd:o.guard=none) (s y:Operand) (t:TypeId)
  (ho:o.op=.call { callee:=.builtin .append,args:=#[s,y],argTypes:=#[t,t] }) (he:qCq e z size bytes) (ht:Tryz.prog.underlying t=some (.slice e))
  (hs:a.eval s=v) (h:RowAt w c x e size v n xs)
  (A:Option Addr) (m cap:Nat) (news:List Value) (hx:a.eval y=.slice A m cap) (hl:news.length=m*size) (hA:A=none→m=0∧cap=0) (hnews:∀ ad,A=some ad→∀ j u,news[j]?=some u→w.cell? (ad.add j)=some u) (h1:∀ u∈news,u.oneCell'=true)
  (h63:n+m≤maxLen) (hbytes:(n+m)*bytes≤140737488355328)
  (hK:∀ A' c' w',RowAt w' (qAz c w.heap.size x) x e size (.slice A' (n+m) c') (n+m) (xs++news)→Ext w w' c (qAz c w.heap.size x) (S1 x)→w.grownBy w' v.ownBlock→((Value.slice A' (n+m) c').ownBlock=v.ownBlock∨(Value.slice A' (n+m) c').ownBlock=some w.heap.size)→wpList Tryz.prog ops Q rest (a.put o.dst (.slice A' (n+m) c')) w'):wpList Tryz.prog ops Q (o::rest) a w:=by
 obtain ⟨i,hi,hz0,hz1,hz2⟩:=he.info
 exact Stl.wpList_app w hgd s y t ho 0 e i z size bytes ht hi hz0 hz1 hz2 he.cells he.pos v n xs hs h.1 A m cap news hx hl hA hnews h1 h63 hbytes (zy _)
  fun A' c' w' h2 h3 h4=>hK A' c' w' (h.grown h2 h3 h4).1 (h.grown h2 h3 h4).2 h3 h4
theorem qAw (cs:List Value) (t:TypeId) (w:World):∀ ad,some (⟨w.heap.size,0,none⟩:Addr)=some ad→∀ j u,cs[j]?=some u→(w.alloc (.cells cs.toArray t)).cell? (ad.add j)=some u:=by
 intro ad had
 cases had
 exact World.news_of_block (cs:=cs.toArray) (t:=t) (fr:=(0,0)) (zL1 w _)
end
end Go.Proofs.YthogfjmnnaoldaaGreatDoor
namespace Stl
theorem crc_take (l:List UInt8) (k:Nat) (h:k<l.length):(l.take (k+1)).foldl crcByte 0xFFFFFFFF=crcByte ((l.take k).foldl crcByte 0xFFFFFFFF) l[k]:=by
 rw [zq h,List.foldl_append]
 rfl
theorem bits_xor (x y:UInt32):Go.bits .xor .u32 (x.toNat:Int) (y.toNat:Int)=((x ^^^ y).toNat:Int):=by
 show Go.IntKind.wrap .u32 ((BitVec.ofInt 32 (x.toNat:Int) ^^^ BitVec.ofInt 32 (y.toNat:Int)).toNat:Int)=_
 rw [u32_xor,qKM _ (UInt32.toNat_lt _)]
theorem qOi (x y:UInt32):Go.bits .and .u32 (x.toNat:Int) (y.toNat:Int)=((x &&& y).toNat:Int):=by
 show Go.IntKind.wrap .u32 ((BitVec.ofInt 32 (x.toNat:Int) &&& BitVec.ofInt 32 (y.toNat:Int)).toNat:Int)=_
 rw [u32_and,qKM _ (UInt32.toNat_lt _)]
theorem bits_in (c:UInt32) (b:UInt8):Go.bits .xor .u32 (c.toNat:Int) ((b.toNat:Int)%4294967296)=((c ^^^ b.toUInt32).toNat:Int):=by
 have e1:(b.toNat:Int)%4294967296=(b.toUInt32.toNat:Int):=by
  have:=b.toNat_lt
  simp
  omega
 rw [e1,bits_xor]
theorem crc_bit (c:UInt32):Go.bits .xor .u32 ((c.toNat:Int)/2) (3988292384*Go.bits .and .u32 (c.toNat:Int) 1%4294967296)=((crcBit c).toNat:Int):=by
 have e1:Go.bits .and .u32 (c.toNat:Int) 1=((c &&& 1).toNat:Int):=qOi c 1
 have e2:(3988292384*((c &&& 1).toNat:Int))%4294967296=((0xEDB88320*(c &&& 1)).toNat:Int):=by
  rw [UInt32.toNat_mul]
  simp
 have e3:(c.toNat:Int)/(2:Int)=((c >>> 1).toNat:Int):=by
  have:(c >>> 1).toNat=c.toNat/2:=by
   rw [UInt32.toNat_shiftRight]
   simp [Nat.shiftRight_eq_div_pow]
  rw [this]
  omega
 rw [e1,e2,e3,bits_xor]
 rfl
end Stl
namespace Go.Proofs.YthogfjmnnaoldaaGreatDoor
open Go.RowKit
theorem qJQ (l:List UInt8) (hl:l.length≤1000000) (w:World) :
  Calls Tryz.prog 136 #[.string ⟨l.toArray⟩] w fun e w'=>e=.returned (.int .u32 (Stl.crc l).toNat)∧w'=w:=by
 go_enter Tryz.func136,Tryz.ntmps136
 go_wp2_with fail
 go_loopw [3,7] (fun a i wr=>wr=w∧∃ k:Nat,k≤l.length∧i=.int .i64 k∧a=.int .u32 ((l.take k).foldl Stl.crcByte 0xFFFFFFFF).toNat) (fun _ i _=>l.length-(intOf i).toNat)
 case atStart=>exact ⟨rfl,0,zy _,rfl,rfl⟩
 case round =>
  obtain ⟨rfl,k,hk,rfl,rfl⟩:=hrel
  by_cases hkl:k<l.length
  ·have i1:(k:Int)<(l.length:Int):=by omega
   have i2:(0:Int)≤(k:Int):=by omega
   have HT:=Hh (Stl.crc_take l k hkl)
   generalize (l.take k).foldl Stl.crcByte 0xFFFFFFFF=c0 at *
   have hb:(ByteArray.mk l.toArray)[k]'(by simpa [ByteArray.size] using hkl)=l[k]:=by simp [ByteArray.getElem_eq_getElem_data]
   have HC:=Hh hkl
   generalize l[k]=b at *
   have hx:=Stl.bits_in c0 b
   go_wp2_with fail
   go_loopw [3,16] (fun a i wq=>wq=wr∧∃ q:Nat,q≤8∧i=.int .i64 q∧a=.int .u32 (Nat.repeat Stl.crcBit q (c0 ^^^ b.toUInt32)).toNat) (fun _ i _=>8-(intOf i).toNat)
   case atStart=>exact ⟨rfl,0,by omega,rfl,rfl⟩
   case round =>
    obtain ⟨rfl,q,hq,rfl,rfl⟩:=hrel
    by_cases hq8:q<8
    ·have j1:(q:Int)<8:=by omega
     have HN:=Hh (show Nat.repeat Stl.crcBit (q+1) (c0 ^^^ b.toUInt32)=Stl.crcBit (Nat.repeat Stl.crcBit q (c0 ^^^ b.toUInt32)) from rfl)
     generalize Nat.repeat Stl.crcBit q (c0 ^^^ b.toUInt32)=c1 at *
     go_wp2
     go_roundw
     case rel =>
      refine ⟨trivial,q+1,hq8,by go_num,?_⟩
      rw [HN.out]
      exact congrArg (Value.int .u32) (Stl.crc_bit c1)
     case measure=>simp [intOf];omega
    ·have j1:¬ (q:Int)<8:=by omega
     have hq9:q=8:=by omega
     subst hq9
     go_wp2
     go_roundw
     case rel =>
      refine ⟨trivial,k+1,HC.out,by go_num,?_⟩
      rw [HT.out]
      rfl
     case measure=>simp [intOf];omega
  ·have i1:¬ (k:Int)<(l.length:Int):=by omega
   have hs:IntKind.u32.signed=false:=rfl
   have HK:=Hh (show l.take k=l from zo (by omega))
   have hx:=Stl.bits_xor 0xFFFFFFFF ((l.take k).foldl Stl.crcByte 0xFFFFFFFF)
   go_wp2
   go_ret
   refine ⟨?_,rfl⟩
   have hy:bits BinOp.xor IntKind.u32 IntKind.u32.max ((l.take k).foldl Stl.crcByte 0xFFFFFFFF).toNat=((Stl.crc l).toNat:Int):=by
    rw [HK.out] at hx ⊢
    exact hx.trans (by congr 2)
   exact congrArg (fun x=>Ending.returned (.int .u32 x)) hy
end Go.Proofs.YthogfjmnnaoldaaGreatDoor
