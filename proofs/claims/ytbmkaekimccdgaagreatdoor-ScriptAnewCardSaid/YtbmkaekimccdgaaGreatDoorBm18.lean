/- Lemmas. -/
import Derived.Test.YtbmkaekimccdgaaGreatDoorBm14
import Derived.Test.YtbmkaekimccdgaaGreatDoorBm17
set_option maxHeartbeats 16000000
set_option maxRecDepth 1000000
set_option linter.all false
namespace Go.Proofs.YtbmkaekimccdgaaGreatDoor
open Go.RowKit Go.Maps Go.Sort Go.Shelf Stl
mutual
theorem NodeP.of_at {w:World}:∀ (n:Nd) (vs:List Value),NodeAt w n vs→NodeP (fun b=>b<w.heap.size) w n vs
 | .mk k d e ks,vs,h=>by
  unfold NodeAt at h;unfold NodeP;obtain⟨A,c,h1,h2,h3⟩:=h;refine⟨A,c,h1,h2,fun hn=>?_⟩;obtain⟨b,off,h4,h5,h6⟩:=h3 hn;exact⟨b,off,h4,⟨h5,h5⟩,KidsP.of_at ks off h6⟩
theorem KidsP.of_at {w:World}{b:Nat}:∀ (ks:List (List UInt8×Nd)) (off:Nat),KidsAt w b off ks→KidsP (fun b=>b<w.heap.size) w b off ks
 | [],_,_=>by unfold KidsP;trivial
 | (name,x)::r,off,h=>by
  unfold KidsAt at h;unfold KidsP;obtain⟨h1,⟨v0,v1,v2,v3,c0,c1,c2,c3,h2⟩,h3⟩:=h;exact⟨h1,⟨v0,v1,v2,v3,c0,c1,c2,c3,NodeP.of_at x _ h2⟩,KidsP.of_at r (off+5) h3⟩
end
theorem qAV {P:Nat→Prop}{w:World}{b:Nat}:∀ (ks:List (List UInt8×Nd)) (off:Nat),KidsP P w b off ks→∃ xs,KidsCells P w ks xs∧∀ j u,xs[j]?=some u→w.cell? ⟨b,off+j,none⟩=some u
 | [],_,_=>⟨[],rfl,fun j u h=>by simp at h⟩
 | (name,x)::r,off,h=>by
  unfold KidsP at h;obtain⟨h1,⟨v0,v1,v2,v3,c0,c1,c2,c3,h2⟩,h3⟩:=h;obtain⟨xs,h4,h5⟩:=qAV r (off+5) h3;refine⟨[.string ⟨name.toArray⟩,v0,v1,v2,v3]++xs,⟨v0,v1,v2,v3,xs,rfl,h1.2,h2,h4⟩,fun j u hu=>?_⟩
  match j,hu with
  | 0,hu=>simp at hu;rw[← hu];exact h1.1
  | 1,hu=>simp at hu;rw[← hu];exact c0
  | 2,hu=>simp at hu;rw[← hu];exact c1
  | 3,hu=>simp at hu;rw[← hu];exact c2
  | 4,hu=>simp at hu;rw[← hu];exact c3
  | j+5,hu =>
   have:=h5 j u (by simpa using hu);rw[show off+(j+5)=off+5+j by omega];exact this
theorem KidsCells.oneCell {P:Nat→Prop}{w:World}:∀ (ks:List (List UInt8×Nd)) (xs:List Value),KidsCells P w ks xs→∀ u∈xs,u.oneCell'=true
 | [],xs,h,u,hu=>by
  have e:xs=[]:=h;subst e
  cases hu
 | (nm,x)::r,xs,h,u,hu=>by
  obtain⟨v0,v1,v2,v3,b,rfl,_,hn,h2⟩:=h;obtain⟨k,d,e,ks⟩:=x;obtain⟨A,c,e'⟩:=hn.open;simp only[zD,and_true] at e';obtain⟨rfl,rfl,rfl,rfl⟩:=e';simp only[zE,zh,zY] at hu
  rcases hu with rfl | rfl | rfl | rfl | rfl | hu
  ·rfl
  ·rfl
  ·rfl
  ·rfl
  ·rfl
  ·exact KidsCells.oneCell r b h2 u hu
theorem dC:xX 224 (.agg #[.string ByteArray.empty,.string ByteArray.empty,.string ByteArray.empty,.bool false,.slice none 0 0]) 5 80:=xQ (by kernel_rfl) rfl (by decide)
theorem qHY (a:Addr)(cap:Nat)(w:World) :
  Calls Tryz.prog 202 #[.slice (some a) 0 cap] w fun ev w'=>∃ A' cap',ev=.returned (.slice A' 0 cap')∧w'.ownsRow w.heap.size 224 5 (.slice A' 0 cap') 0 []∧Below w.heap.size w w':=by
 obtain⟨i,hi,hz0,hz1,hz2⟩:=dC.info;have t43:Tryz.prog.underlying 132=some (.slice 224):=by kernel_rfl
 have q43:∀ (w:World) (a:Option Addr) (n c:Nat),(binOp .eql 132 (.slice a n c) (.slice none 0 0)).run Tryz.prog w=.ok (.bool a.isNone) w:=fun w a n c=>Lib.run_eql_slice_nil w _ _ a n c 0 0 t43
 have u43:∀ w,Sem.run Tryz.prog (underlying 132) w=.ok (TypeDesc.slice 224) w:=run_underlying t43;go_enter Tryz.func202,Tryz.ntmps202;go_wp2_with (at_builtin;refine wpList_append_own _ rfl _ _ 132 rfl w.heap.size 224 i _ 5 80 t43 hi hz0 hz1 hz2 rfl (by decide) _ _ _ rfl (World.ownsRow_made w #[] 0 (zo _) (zw _) rfl) a 0 cap [] rfl rfl (by intro j u hj;simp at hj) (by intro u hu;cases hu) (by unfold maxLen;omega) (by omega) (by simp) ?_);intro v' w1 hown hgrow hnil;obtain⟨A',cap',rfl⟩:=Stl.owns_slice _ hown;go_wp2;go_ret;refine⟨A',cap',rfl,by simpa using hown,?_⟩;exact((zB _ w).alloc (zo _) _).grown hgrow (by simp) (by intro k hk;simp[Value.ownBlock] at hk;omega)
theorem pI {P:Nat→Prop}{w:World}{k d:List UInt8}{e:Bool}{ks:List (List UInt8×Nd)}{A:Option Addr}{cap:Nat}(hp:NodeP P w (.mk k d e ks) [.string ⟨k.toArray⟩,.string ⟨d.toArray⟩,.bool e,.slice A ks.length cap])(w1:World)(hb:Below w.heap.size w w1) :
  Calls Tryz.prog 202 #[.slice A ks.length cap] w1 fun ev w'=>∃ A' cap' xs,ev=.returned (.slice A' ks.length cap')∧w'.ownsRow w1.heap.size 224 5 (.slice A' ks.length cap') ks.length xs∧KidsCells P w ks xs∧Below w1.heap.size w1 w':=by
 unfold NodeP at hp;obtain⟨A2,c2,h1,h2,h3⟩:=hp;simp only[zD,zC1,and_true,true_and] at h1;obtain⟨rfl,rfl⟩:=h1;obtain⟨i,hi,hz0,hz1,hz2⟩:=dC.info
 rcases ks with _ | ⟨q,r⟩
 ·rcases A with _ | a
  ·refine(AnyE.slices_Clone_nil Tryz.cloneKid 0 cap w1).mono ?_;rintro ev w' ⟨rfl,rfl⟩;exact⟨none,0,[],rfl,zF1 _ _ _ _,rfl,zB _ _⟩
  ·refine(qHY a cap w1).mono ?_;rintro ev w' ⟨A',cap',rfl,h5,h6⟩;exact⟨A',cap',[],rfl,h5,rfl,h6⟩
 ·obtain⟨b,off,rfl,hb2,hkp⟩:=h3 (by simp);obtain⟨xs,hx1,hx2⟩:=qAV _ _ hkp;have hl:=KidsCells.length _ _ hx1;refine(AnyE.slices_Clone Tryz.cloneKid i _ 5 80 hi hz0 hz1 hz2 rfl (by decide) (gB dC) b off (q::r).length cap xs w1 (by omega) (by unfold maxLen;omega) (by omega) (fun j u hu=>(hb.cell (p:=⟨b,off+j,none⟩) hb2.1).trans (hx2 j u hu)) (KidsCells.oneCell _ _ hx1)).mono ?_;rintro ev w' ⟨v',rfl,h5,_,h6⟩;obtain⟨A',cap',rfl⟩:=Stl.owns_slice _ h5;exact⟨A',cap',xs,rfl,h5,hx1,h6⟩
theorem KidsCells.split {P:Nat→Prop}{w:World}:∀ (l m:List (List UInt8×Nd)) (vs:List Value),KidsCells P w (l++m) vs→∃ a b,vs=a++b∧KidsCells P w l a∧KidsCells P w m b
 | [],m,vs,h=>⟨[],vs,rfl,rfl,h⟩
 | (nm,x)::r,m,vs,h=>by
  obtain⟨v0,v1,v2,v3,b,rfl,h1,hn,h2⟩:=h;obtain⟨a',b',rfl,h3,h4⟩:=KidsCells.split r m b h2;exact⟨[.string ⟨nm.toArray⟩,v0,v1,v2,v3]++a',b',by simp,⟨v0,v1,v2,v3,a',rfl,h1,hn,h3⟩,h4⟩
structure MapSt (P:Nat→Prop)(f:List UInt8×Nd→Nd)(ks:List (List UInt8×Nd))(B:Nat)(w0:World)(m:Nat)(L:List Obj)(A:Option Addr)(cap:Nat)(j:Nat)(w:World):Prop where
 below:Below B w0 w
 size:w0.heap.size=B
 len:L.length=m
 fix:∀ i o,L[i]?=some o→w.heap[B+i]?=some o
 row:∃ xs,w.ownsRow (B+m) 224 5 (.slice A ks.length cap) ks.length xs∧KidsCells (fun b=>(P b∧b<B)∨(B+m≤b∧(Value.slice A ks.length cap).ownBlock≠some b)) w ((ks.take j).map (fun q=>(q.1,f q))++ks.drop j) xs
theorem MapSt.kid {P:Nat→Prop}{f:List UInt8×Nd→Nd}{ks:List (List UInt8×Nd)}{B:Nat}{w0 w:World}{m:Nat}{L:List Obj}{A:Option Addr}{cap j:Nat}(h:MapSt P f ks B w0 m L A cap j w)(hj:j<ks.length) :
  ∃ g a b v0 v1 v2 v3,A=some ⟨g,0,none⟩∧B+m≤g∧a.length=5*j∧w.ownsRow (B+m) 224 5 (.slice A ks.length cap) ks.length (a++[.string ⟨ks[j].1.toArray⟩,v0,v1,v2,v3]++b)∧ks[j].1.length≤140737488355328 ∧
   NodeP (fun b=>(P b∧b<B)∨(B+m≤b∧b≠g)) w ks[j].2 [v0,v1,v2,v3]∧KidsCells (fun b=>(P b∧b<B)∨(B+m≤b∧b≠g)) w ((ks.take j).map (fun q=>(q.1,f q))) a∧KidsCells (fun b=>(P b∧b<B)∨(B+m≤b∧b≠g)) w (ks.drop (j+1)) b ∧
   w.cell? ⟨g,5*j,none⟩=some (.string ⟨ks[j].1.toArray⟩)∧w.cell? ⟨g,5*j+1,none⟩=some v0∧w.cell? ⟨g,5*j+2,none⟩=some v1∧w.cell? ⟨g,5*j+3,none⟩=some v2∧w.cell? ⟨g,5*j+4,none⟩=some v3:=by
 obtain⟨xs,h1,h2⟩:=h.row;have hne:ks.length≠0:=by omega
 have hA:∃ g,A=some ⟨g,0,none⟩∧B+m≤g:=by
  rcases h1.2 with ⟨_,h0⟩ | ⟨g,cap',cur,e,hb,_⟩
  ·exact absurd h0 (by simp;omega)
  ·simp only[zC1] at e;exact⟨g,e.1,hb⟩
 obtain⟨g,rfl,hg⟩:=hA;rw[show (fun b=>(P b∧b<B)∨(B+m≤b∧(Value.slice (some ⟨g,0,none⟩) ks.length cap).ownBlock≠some b))=fun b=>(P b∧b<B)∨(B+m≤b∧b≠g) from by
  funext b;simp[Value.ownBlock,eq_comm]] at h2
 rw[zF hj] at h2;obtain⟨a,b',rfl,h3,h4⟩:=KidsCells.split _ _ _ h2;obtain⟨v0,v1,v2,v3,b,rfl,h5,h6,h7⟩:=h4;have hal:a.length=5*j:=by
  have:=KidsCells.length _ _ h3;simpa[Nat.min_eq_left (Nat.le_of_lt hj)] using this
 have hlen:=h1.1;have hget:∀ i v,([Value.string ⟨ks[j].1.toArray⟩,v0,v1,v2,v3]++b)[i]?=some v→i<5→w.cell? ⟨g,5*j+i,none⟩=some v:=fun i v hv hi=>by
  rw[h1.cellAt (5*j+i) (by omega),List.getElem?_append_right (by omega),hal,Nat.add_sub_cancel_left];exact hv
 refine⟨g,a,b,v0,v1,v2,v3,rfl,hg,hal,by simpa using h1,h5,h6,h3,h7,hget 0 _ rfl (by omega),hget 1 _ rfl (by omega),hget 2 _ rfl (by omega),hget 3 _ rfl (by omega),hget 4 _ rfl (by omega)⟩
theorem MapSt.step {P:Nat→Prop}{f:List UInt8×Nd→Nd}{ks:List (List UInt8×Nd)}{B:Nat}{w0 w w2:World}{m:Nat}{L:List Obj}{g cap j:Nat}(h:MapSt P f ks B w0 m L (some ⟨g,0,none⟩) cap j w)(hj:j<ks.length)(hb:Below w.heap.size w w2){u0 u1 u2 u3:Value}
  (hu:NodeP (fun b=>((P b∧b<B)∨(B+m≤b∧b≠g))∨w.heap.size≤b) w2 (f ks[j]) [u0,u1,u2,u3]) :
  MapSt P f ks B w0 m L (some ⟨g,0,none⟩) cap (j+1) ((((w2.setCell ⟨g,5*j+1,none⟩ u0).setCell ⟨g,5*j+2,none⟩ u1).setCell ⟨g,5*j+3,none⟩ u2).setCell ⟨g,5*j+4,none⟩ u3):=by
 obtain⟨g',a,b,v0,v1,v2,v3,e,hg,hal,hr,hnl,hn,ha,hbk,-,-,-,-,-⟩:=h.kid hj
 cases e
 have hgl:g<w.heap.size:=(hr.lt g rfl).2;have hr2:w2.ownsRow (B+m) 224 5 (.slice (some ⟨g,0,none⟩) ks.length cap) ks.length (a++[.string ⟨ks[j].1.toArray⟩,v0,v1,v2,v3]++b):=by
  refine⟨hr.1,?_⟩
  rcases hr.2 with h | ⟨g',cap',cur,e,h5,h6,h7⟩
  ·exact .inl h
  ·simp only[zC1] at e;obtain⟨e1,e2,e3⟩:=e
   cases e1
   exact .inr ⟨g,cap',cur,by rw[e3],h5,(hb.block g hgl).trans h6,h7⟩
 have s1:=(hr2.stored (5*j+1) u0).1;have s2:=(s1.stored (5*j+2) u1).1;have s3:=(s2.stored (5*j+3) u2).1;have s4:=(s3.stored (5*j+4) u3).1;have off:∀ b,b≠g→((((w2.setCell ⟨g,5*j+1,none⟩ u0).setCell ⟨g,5*j+2,none⟩ u1).setCell ⟨g,5*j+3,none⟩ u2).setCell ⟨g,5*j+4,none⟩ u3).heap[b]?=w2.heap[b]?:=fun b hbg=>by
  rw[zA _ ⟨g,5*j+4,none⟩ _ b hbg,zA _ ⟨g,5*j+3,none⟩ _ b hbg,zA _ ⟨g,5*j+2,none⟩ _ b hbg,zA _ ⟨g,5*j+1,none⟩ _ b hbg]
 have hsz:((((w2.setCell ⟨g,5*j+1,none⟩ u0).setCell ⟨g,5*j+2,none⟩ u1).setCell ⟨g,5*j+3,none⟩ u2).setCell ⟨g,5*j+4,none⟩ u3).heap.size=w2.heap.size:=by simp[World.setCell]
 have hB0:=h.size;have hlen:=h.len;refine⟨?_,h.size,h.len,fun i o ho=>?_,?_⟩
 rotate_left
 ·have hil:=(zM.1 ho).1;exact(off (B+i) (by omega)).trans ((hb.block (B+i) (qA (h.fix i o ho))).trans (h.fix i o ho))
 rotate_left
 ·have hb':Below B w0 w2:=h.below.trans (hb.mono (by omega));have k:∀ {W:World},Below B w0 W→∀ (i:Nat) (u:Value),Below B w0 (W.setCell ⟨g,i,none⟩ u):=fun hW i u=>hW.setCell (p:=⟨g,i,none⟩) (by simp;omega) u
  exact k (k (k (k hb' _ _) _ _) _ _) _ _
 ·refine⟨_,s4,?_⟩;rw[show (fun b=>(P b∧b<B)∨(B+m≤b∧(Value.slice (some ⟨g,0,none⟩) ks.length cap).ownBlock≠some b))=fun b=>(P b∧b<B)∨(B+m≤b∧b≠g) from by
   funext b;simp[Value.ownBlock,eq_comm]]
  have hset:((((a++[.string ⟨ks[j].1.toArray⟩,v0,v1,v2,v3]++b).set (5*j+1) u0).set (5*j+2) u1).set (5*j+3) u2).set (5*j+4) u3=a++([.string ⟨ks[j].1.toArray⟩,u0,u1,u2,u3]++b):=by
   rw[← hal];simp
  rw[hset,zn hj,zU,List.append_assoc];have hgo:∀ b,b<w.heap.size→((P b∧b<B)∨(B+m≤b∧b≠g))→((((w2.setCell ⟨g,5*j+1,none⟩ u0).setCell ⟨g,5*j+2,none⟩ u1).setCell ⟨g,5*j+3,none⟩ u2).setCell ⟨g,5*j+4,none⟩ u3).heap[b]?=w.heap[b]?∧((P b∧b<B)∨(B+m≤b∧b≠g)):=fun b hbl hp=>⟨(off b (by rcases hp with h | h<;>omega)).trans (hb.block b hbl),hp⟩
  have hsl:w.heap.size≤((((w2.setCell ⟨g,5*j+1,none⟩ u0).setCell ⟨g,5*j+2,none⟩ u1).setCell ⟨g,5*j+3,none⟩ u2).setCell ⟨g,5*j+4,none⟩ u3).heap.size:=by rw[hsz];exact hb.size
  refine KidsCells.append _ _ _ _ (KidsCells.go hsl hgo _ _ ha) ⟨u0,u1,u2,u3,b,rfl,hnl,?_,KidsCells.go hsl hgo _ _ hbk⟩;refine NodeP.go (w:=w2) (by rw[hsz];exact zo _) (fun b hbl hp=>⟨off b ?_,?_⟩) _ _ hu
  ·rcases hp with (hp | hp) | hp<;>omega
  ·rcases hp with hp | hp
   ·exact hp
   ·exact .inr (by omega)
theorem MapSt.done {P:Nat→Prop}{f:List UInt8×Nd→Nd}{ks:List (List UInt8×Nd)}{B:Nat}{w0 w:World}{m:Nat}{L:List Obj}{k d:List UInt8}{e:Bool}{A:Option Addr}{cap:Nat}(h:MapSt P f ks B w0 m L A cap ks.length w)(hk:k.length≤140737488355328)(hd:d.length≤140737488355328)(hl:ks.length≤1759218604441) :
  NodeP (fun b=>(P b∧b<B)∨B+m≤b) w (.mk k d e (ks.map fun q=>(q.1,f q))) [.string ⟨k.toArray⟩,.string ⟨d.toArray⟩,.bool e,.slice A ks.length cap]:=by
 obtain⟨xs,h1,h2⟩:=h.row;rw[zm (zo _),zG (zo _),List.append_nil] at h2;have hcap:ks.length≤cap:=by
  rcases h1.2 with ⟨h0,h00⟩ | ⟨g,cap',cur,e,h5,h6,h7,h8,h9,_⟩
  ·omega
  ·simp only[zC1] at e;obtain⟨_,_,rfl⟩:=e;omega
 unfold NodeP;refine⟨A,cap,by simp,⟨by simpa using hcap,by simpa using hl,hk,hd⟩,fun hne=>?_⟩;have hne':ks≠[]:=fun e=>hne (by rw[e];rfl)
 have hpos:=List.length_pos_iff.2 hne'
 rcases h1.2 with ⟨_,h0⟩ | ⟨g,cap',cur,e,h5,h6,h7⟩
 ·omega
 ·have e2:=e;simp only[zC1] at e2;obtain⟨rfl,_,rfl⟩:=e2;refine⟨g,0,rfl,⟨qA h6,.inr (by omega)⟩,qAl _ xs 0 (KidsCells.go (zo _) (fun b _ hp=>⟨rfl,hp.imp id (fun h=>h.1)⟩) _ _ h2) fun j u hu=>?_⟩;rw[zv,h1.cellAt j (by rw[← h1.1];exact(zM.1 hu).1)];exact hu
theorem MapSt.told {P:Nat→Prop}{f:List UInt8×Nd→Nd}{ks:List (List UInt8×Nd)}{B:Nat}{w0 w:World}{m:Nat}{L:List Obj}{k d:List UInt8}{e:Bool}{A:Option Addr}{cap:Nat}(h:MapSt P f ks B w0 m L A cap ks.length w)(hk:k.length≤140737488355328)(hd:d.length≤140737488355328)(hl:ks.length≤1759218604441){x:Nat}(hx0:B≤x)(hx:x<B+m)(u0 u1 u2 u3:Value) :
  NodeP (fun b=>P b∨B≤b) ((((w.setCell ⟨x,0,none⟩ u0).setCell ⟨x,1,none⟩ u1).setCell ⟨x,2,none⟩ u2).setCell ⟨x,3,none⟩ u3) (.mk k d e (ks.map fun q=>(q.1,f q))) [.string ⟨k.toArray⟩,.string ⟨d.toArray⟩,.bool e,.slice A ks.length cap] ∧
  Below B w0 ((((w.setCell ⟨x,0,none⟩ u0).setCell ⟨x,1,none⟩ u1).setCell ⟨x,2,none⟩ u2).setCell ⟨x,3,none⟩ u3):=by
 refine⟨NodeP.go (w:=w) (by simp[World.setCell]) (fun b hb hp=>⟨?_,hp.imp (fun h=>h.1) (fun h=>by omega)⟩) _ _ (h.done hk hd hl),?_⟩
 ·have hbg:b≠x:=by rcases hp with h | h<;>omega
  rw[zA _ ⟨x,3,none⟩ _ b hbg,zA _ ⟨x,2,none⟩ _ b hbg,zA _ ⟨x,1,none⟩ _ b hbg,zA _ ⟨x,0,none⟩ _ b hbg]
 ·have hB:=h.size;have k:∀ {W:World},Below B w0 W→∀ (i:Nat) (u:Value),Below B w0 (W.setCell ⟨x,i,none⟩ u):=fun hW i u=>hW.setCell (p:=⟨x,i,none⟩) hx0 u
  exact k (k (k (k h.below _ _) _ _) _ _) _ _
end Go.Proofs.YtbmkaekimccdgaaGreatDoor
namespace Go.Proofs.YtbmkaekimccdgaaGreatDoor
open Go.RowKit Go.Sort Go.Shelf Stl
theorem kF {P:Nat→Prop}{w:World}{n:Nd}{us:List Value}(h:NodeP P w n us):∃ k d e A m c,us=[.string k,.string d,.bool e,.slice A m c]:=by
 obtain⟨k,d,e,ks⟩:=n;obtain⟨A,c,rfl⟩:=h.open;exact⟨_,_,_,_,_,_,rfl⟩
theorem kX {w:World}{g i:Nat}{u:Value}{b k:Nat}{v:Value}(h:w.cell? ⟨b,k,none⟩=some v)(hg:g≠b):(w.setCell ⟨g,i,none⟩ u).cell? ⟨b,k,none⟩=some v :=
 (zD1 (a:=⟨b,k,none⟩) (zA w ⟨g,i,none⟩ u b (fun e=>hg e.symm))).trans h
theorem qX {w:World}{g i0 i1 i2 i3:Nat}{u0 u1 u2 u3:Value}{b k:Nat}{v:Value}(h:w.cell? ⟨b,k,none⟩=some v)(hg:g≠b):((((w.setCell ⟨g,i0,none⟩ u0).setCell ⟨g,i1,none⟩ u1).setCell ⟨g,i2,none⟩ u2).setCell ⟨g,i3,none⟩ u3).cell? ⟨b,k,none⟩=some v :=
 kX (kX (kX (kX h hg) hg) hg) hg
theorem qOV {w:World}{B:Nat}{a b:Obj}(h0:w.heap[B]?=some a)(h1:w.heap[B+1]?=some b):∀ (i:Nat) o,[a,b][i]?=some o→w.heap[B+i]?=some o
 | 0,o,h=>by cases h;exact h0
 | 1,o,h=>by cases h;exact h1
 | i+2,o,h=>by cases h
theorem nK:∀ (N:Nat) (n:Nd) (vs:List Value) (P:Nat→Prop) (w:World),Stl.wt n≤N→NodeP P w n vs →
  Calls Tryz.prog 156 #[.agg vs.toArray] w fun e w'=>∃ us,e=.returned (.agg us.toArray)∧NodeP (fun b=>P b∨w.heap.size≤b) w' n us∧Below w.heap.size w w'
 | 0,n,vs,P,w,hN,_=>by obtain⟨k,d,e,ks⟩:=n;simp[Stl.wt] at hN
 | N+1,.mk k d e ks,vs,P,w,hN,h=>by
  have IH:=Hh (nK N);obtain⟨A,cap,rfl⟩:=h.open;have HM:=Hh (show Stl.wtL ks≤N by simp only[Stl.wt] at hN;omega);have hb1:Below w.heap.size w ((w.alloc (.cells #[.string ⟨k.toArray⟩,.string ⟨d.toArray⟩,.bool e,.slice A ks.length cap] 134)).alloc (.cells #[.string ⟨#[]⟩,.string ⟨#[]⟩,.bool false,.slice none 0 0] 134)):=((zB _ w).alloc (zo _) _).alloc (by simp) _;have HCL:=Hh (pI h _ hb1);have hsz:((w.alloc (.cells #[.string ⟨k.toArray⟩,.string ⟨d.toArray⟩,.bool e,.slice A ks.length cap] 134)).alloc (.cells #[.string ⟨#[]⟩,.string ⟨#[]⟩,.bool false,.slice none 0 0] 134)).heap.size=w.heap.size+2:=by simp
  have hx0:=qS (w.alloc (.cells #[.string ⟨k.toArray⟩,.string ⟨d.toArray⟩,.bool e,.slice A ks.length cap] 134)) (.cells #[.string ⟨#[]⟩,.string ⟨#[]⟩,.bool false,.slice none 0 0] 134) (zK1 w (.cells #[.string ⟨k.toArray⟩,.string ⟨d.toArray⟩,.bool e,.slice A ks.length cap] 134));have hx1:=zK1 (w.alloc (.cells #[.string ⟨k.toArray⟩,.string ⟨d.toArray⟩,.bool e,.slice A ks.length cap] 134)) (.cells #[.string ⟨#[]⟩,.string ⟨#[]⟩,.bool false,.slice none 0 0] 134);rw[show (w.alloc (.cells #[.string ⟨k.toArray⟩,.string ⟨d.toArray⟩,.bool e,.slice A ks.length cap] 134)).heap.size=w.heap.size+1 by simp] at hx1;have HND:=Hh h;have HBD:=Hh (show ks.length≤1759218604441∧k.length≤140737488355328∧d.length≤140737488355328 by
   unfold NodeP at h
   obtain⟨_,_,_,h2,_⟩:=h
   exact⟨h2.2.1,h2.2.2.1,h2.2.2.2⟩)
  have HB1:=Hh hb1;have HX0:=Hh hx0;have HX1:=Hh hx1;have HSZ:=Hh hsz;have hks:=HBD.o.1;clear hx0 hx1 hsz hb1 hN;go_enter Tryz.func156,Tryz.ntmps156;go_upto_region 1 with fail;clear h;generalize (w.alloc (.cells #[.string ⟨k.toArray⟩,.string ⟨d.toArray⟩,.bool e,.slice A ks.length cap] 134)).alloc (.cells #[.string ⟨#[]⟩,.string ⟨#[]⟩,.bool false,.slice none 0 0] 134)=w1 at *;have q3:w1.cell? ⟨w.heap.size,3,none⟩=some (.slice A ks.length cap):=zJ1 w1 _ 3 _ _ _ HX0.o;go_upto_region 2 with (go_at_call 202;refine HCL.o.mono ?_;rintro ev w2 ⟨A2,cap2,xs,rfl,hown,hks2,hb2⟩;have hx2:=(hb2.block _ (qA HX0.o)).trans HX0.o;have g3:=zJ1 w2 _ 3 _ _ _ hx2;have f3:=qC hx2 3;have HOWN:=Hh hown;have HKS:=Hh hks2;have HB2:=Hh hb2;have HX2:=Hh hx2;clear hown hb2 hx2 hks2);have hM0:MapSt P (fun q=>q.2) ks w.heap.size w 2 [.cells #[.string ⟨k.toArray⟩,.string ⟨d.toArray⟩,.bool e,.slice A2 ks.length cap2] 134 (0,0),.cells #[.string ⟨#[]⟩,.string ⟨#[]⟩,.bool false,.slice none 0 0] 134 (0,0)] A2 cap2 0 (w2.setCell ⟨w.heap.size,3,none⟩ (.slice A2 ks.length cap2)):=by
   have hno:(Value.slice A2 ks.length cap2).ownBlock≠some w.heap.size:=fun e=>by have:=(HOWN.o.lt _ e).1;have:=HSZ.o;omega
   have hw1:=qA HX1.o;have hbel:Below w.heap.size w w2:=HB1.o.trans (HB2.o.mono (by have:=HSZ.o;omega));refine⟨hbel.setCell (p:=⟨w.heap.size,3,none⟩) (zo _) _,rfl,rfl,qOV (qH HX2.o 3 _) ?_,xs,?_,?_⟩
   ·rw[zA w2 ⟨w.heap.size,3,none⟩ _ (w.heap.size+1) (by simp)];exact(HB2.o.block _ hw1).trans HX1.o
   ·rw[← HSZ.o];exact zO1 HOWN.o (a:=⟨w.heap.size,3,none⟩) hno _
   ·rw[List.take_zero,List.map_nil,zh,List.drop_zero];refine KidsCells.go (w:=w) (by simp[World.setCell];exact hbel.size) (fun b hb hp=>⟨?_,.inl ⟨hp,hb⟩⟩) _ _ HKS.o;rw[zA w2 ⟨w.heap.size,3,none⟩ _ b (by simp;omega)];exact hbel.block b hb
  have HM0:=Hh hM0;clear hM0 q3 g3 f3;generalize w2.setCell ⟨w.heap.size,3,none⟩ (.slice A2 ks.length cap2)=w3 at *;have q3:w3.cell? ⟨w.heap.size,3,none⟩=some (.slice A2 ks.length cap2):=zJ1 w3 _ 3 _ _ _ (HM0.o.fix 0 _ rfl);go_upto_region 3 with fail
  go_loopw [11] (fun a wr=>∃ (j:Nat),j≤ks.length∧a=.int .i64 j∧Hg (MapSt P (fun q=>q.2) ks w.heap.size w 2 [.cells #[.string ⟨k.toArray⟩,.string ⟨d.toArray⟩,.bool e,.slice A2 ks.length cap2] 134 (0,0),.cells #[.string ⟨#[]⟩,.string ⟨#[]⟩,.bool false,.slice none 0 0] 134 (0,0)] A2 cap2 j wr)) (fun a _=>ks.length-(intOf a).toNat)
  case atStart=>exact⟨0,zw _,rfl,HM0⟩
  case round =>
   obtain⟨j,hj,rfl,HMJ⟩:=hrel;clear q3;have q0:wr.cell? ⟨w.heap.size,0,none⟩=some (.string ⟨k.toArray⟩):=zJ1 wr _ 0 _ _ _ (HMJ.o.fix 0 _ rfl);have q1:wr.cell? ⟨w.heap.size,1,none⟩=some (.string ⟨d.toArray⟩):=zJ1 wr _ 1 _ _ _ (HMJ.o.fix 0 _ rfl);have q2:wr.cell? ⟨w.heap.size,2,none⟩=some (.bool e):=zJ1 wr _ 2 _ _ _ (HMJ.o.fix 0 _ rfl);have q3:wr.cell? ⟨w.heap.size,3,none⟩=some (.slice A2 ks.length cap2):=zJ1 wr _ 3 _ _ _ (HMJ.o.fix 0 _ rfl);by_cases hjl:j<ks.length
   ·have i4:(j:Int)<(ks.length:Int):=by omega
    have i5:(0:Int)≤(j:Int):=by omega
    obtain⟨g,a,b,v0,v1,v2,v3,rfl,hg,hal,hr,hnl,hn,-,-,k0,k1,k2,k3,k4⟩:=HMJ.o.kid hjl;have HW:=Hh (zq (Stl.wt_mem ks j hjl) HM.o);have HN:=Hh hn;have hih:=IH.o ks[j].2 [v0,v1,v2,v3] _ wr.drew HW.o (NodeP.go (w:=wr) (w':=wr.drew) (zo _) (fun b _ hp=>⟨rfl,hp⟩) _ _ HN.o);have HIH:=Hh hih;have HJL:=Hh hjl;have HR:=Hh hr;have hgne:g≠w.heap.size:=by omega
    have hbx:=qA (HMJ.o.fix 0 _ rfl);have hgl:=(HR.o.lt g rfl).2;rw[show 5*j+1=j*5+1 by omega] at k1;rw[show 5*j+2=j*5+1+1 by omega] at k2;rw[show 5*j+3=j*5+1+2 by omega] at k3;rw[show 5*j+4=j*5+1+3 by omega] at k4;have HKP:=Hh (fun (W:World) (hW':Below wr.drew.heap.size wr.drew W)=>show (W.cell? ⟨w.heap.size,3,none⟩=some (.slice (some ⟨g,0,none⟩) ks.length cap2)∧W.cell? ⟨g,j*5+1,none⟩=some v0∧W.cell? ⟨g,j*5+1+1,none⟩=some v1∧W.cell? ⟨g,j*5+1+2,none⟩=some v2∧W.cell? ⟨g,j*5+1+3,none⟩=some v3)∧W.frozen? ⟨g,j*5+1,none⟩=false∧W.frozen? ⟨g,j*5+1+1,none⟩=false∧W.frozen? ⟨g,j*5+1+2,none⟩=false∧W.frozen? ⟨g,j*5+1+3,none⟩=false from
     have hW:Below wr.heap.size wr W:=⟨hW'.os,hW'.tape,hW'.output,hW'.size,hW'.block⟩
     ⟨⟨(hW.cell (p:=⟨w.heap.size,3,none⟩) hbx).trans q3,(hW.cell (p:=⟨g,j*5+1,none⟩) hgl).trans k1,(hW.cell (p:=⟨g,j*5+1+1,none⟩) hgl).trans k2,(hW.cell (p:=⟨g,j*5+1+2,none⟩) hgl).trans k3,(hW.cell (p:=⟨g,j*5+1+3,none⟩) hgl).trans k4⟩,
      (zE1 (hW.block g hgl)).trans (HR.o.frozenAt _),(zE1 (hW.block g hgl)).trans (HR.o.frozenAt _),(zE1 (hW.block g hgl)).trans (HR.o.frozenAt _),(zE1 (hW.block g hgl)).trans (HR.o.frozenAt _)⟩)
    clear hn hr hih;go_upto_region 5 with fail
    go_region_law
     (first
      | (go_simp;go_at_call 156;with_reducible refine HIH.o.mono ?_;rintro ev w5 ⟨us,rfl,hn5,hb5⟩;obtain⟨hS5,f1,f2,f3,f4⟩:=HKP.o w5 hb5;have k0w:=hS5.1;have k1w:=hS5.2.1;have k2w:=hS5.2.2.1;have k3w:=hS5.2.2.2.1;have k4w:=hS5.2.2.2.2;obtain⟨u0,u1,u2,u3,u3m,u3c,rfl⟩:=kF hn5)
      | fail)
    all_goals
     have hMJ:MapSt P (fun q=>q.2) ks w.heap.size w 2 [.cells #[.string ⟨k.toArray⟩,.string ⟨d.toArray⟩,.bool e,.slice (some ⟨g,0,none⟩) ks.length cap2] 134 (0,0),.cells #[.string ⟨#[]⟩,.string ⟨#[]⟩,.bool false,.slice none 0 0] 134 (0,0)] (some ⟨g,0,none⟩) cap2 (j+1) _:=HMJ.o.step HJL.o ⟨hb5.os,hb5.tape,hb5.output,hb5.size,hb5.block⟩ hn5;rw[show 5*j+1=j*5+1 by omega,show 5*j+2=j*5+1+1 by omega,show 5*j+3=j*5+1+2 by omega,show 5*j+4=j*5+1+3 by omega] at hMJ;have HMJ':=Hh hMJ;clear hMJ f1 f2 f3 f4 hS5 k0 k1 k2 k3 k4 k1w k2w k3w k4w k0w hb5 hn5 q0 q1 q2 q3;go_wp2;go_roundw
     case rel=>exact⟨j+1,hjl,by go_num,HMJ'⟩
     case measure=>simp[intOf];omega
   ·have i4:¬ (j:Int)<(ks.length:Int):=by omega
    have hje:j=ks.length:=by omega
    subst hje;have q4:wr.cell? ⟨w.heap.size+1,0,none⟩=some (.string ⟨#[]⟩):=zJ1 wr _ 0 _ _ _ (HMJ.o.fix 1 _ rfl);have q5:wr.cell? ⟨w.heap.size+1,1,none⟩=some (.string ⟨#[]⟩):=zJ1 wr _ 1 _ _ _ (HMJ.o.fix 1 _ rfl);have q6:wr.cell? ⟨w.heap.size+1,2,none⟩=some (.bool false):=zJ1 wr _ 2 _ _ _ (HMJ.o.fix 1 _ rfl);have q7:wr.cell? ⟨w.heap.size+1,3,none⟩=some (.slice none 0 0):=zJ1 wr _ 3 _ _ _ (HMJ.o.fix 1 _ rfl);obtain⟨f0,f1,f2,f3⟩:=Stl.fq (HMJ.o.fix 1 _ rfl);go_wp2_with fail;have HF:=Hh (qH (qH (qH (qH (HMJ.o.fix 1 _ rfl) 0 (.string ⟨k.toArray⟩)) 1 (.string ⟨d.toArray⟩)) 2 (.bool e)) 3 (.slice A2 ks.length cap2));have HT:=Hh (HMJ.o.told (e:=e) HBD.o.2.1 HBD.o.2.2 HBD.o.1 (x:=w.heap.size+1) (by omega) (by omega) (.string ⟨k.toArray⟩) (.string ⟨d.toArray⟩) (.bool e) (.slice A2 ks.length cap2));clear q0 q1 q2 q3 q4 q5 q6 q7 f0 f1 f2 f3;generalize (((wr.setCell ⟨w.heap.size+1,0,none⟩ (.string ⟨k.toArray⟩)).setCell ⟨w.heap.size+1,1,none⟩ (.string ⟨d.toArray⟩)).setCell ⟨w.heap.size+1,2,none⟩ (.bool e)).setCell ⟨w.heap.size+1,3,none⟩ (.slice A2 ks.length cap2)=w9 at *;have r0:w9.cell? ⟨w.heap.size+1,0,none⟩=some (.string ⟨k.toArray⟩):=zJ1 w9 _ 0 _ _ _ HF.o;have r1:w9.cell? ⟨w.heap.size+1,1,none⟩=some (.string ⟨d.toArray⟩):=zJ1 w9 _ 1 _ _ _ HF.o;have r2:w9.cell? ⟨w.heap.size+1,2,none⟩=some (.bool e):=zJ1 w9 _ 2 _ _ _ HF.o;have r3:w9.cell? ⟨w.heap.size+1,3,none⟩=some (.slice A2 ks.length cap2):=zJ1 w9 _ 3 _ _ _ HF.o;refine zH1 (v:=.agg #[.string ⟨k.toArray⟩,.string ⟨d.toArray⟩,.bool e,.slice A2 ks.length cap2]) ?_ rfl ⟨[.string ⟨k.toArray⟩,.string ⟨d.toArray⟩,.bool e,.slice A2 ks.length cap2],rfl,by simpa using HT.o.1,HT.o.2⟩;simp[results,Tryz.results156,go_sem,r0,r1,r2,r3]
end Go.Proofs.YtbmkaekimccdgaaGreatDoor
