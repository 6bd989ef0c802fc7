/- Lemmas. -/
import Derived.Test.YtbmkaekimccdgaaGreatDoorBm41
import Derived.Test.YtbmkaekimccdgaaGreatDoorBm42
set_option maxHeartbeats 16000000
set_option maxRecDepth 1000000
set_option linter.all false
namespace Go.Proofs.YtbmkaekimccdgaaGreatDoor
open Go.RowKit Go.Sort Go.Shelf Stl
structure OpSt (w2 wr:World)(c2 cr:Nat→Col)(b tp0 n:Nat)(rs:List (List UInt8))(j:Nat)(s:Sto):Prop where
 ext:Ext w2 wr c2 cr mU
 sto:StoAt wr cr b s tp0
 done:xH (Sto.new n) (rs.take j)=some s
 run:RunSto j s
def qOn (p:Nat→Addr)(w:World)(c:Nat→Col)(tp:Nat)(s:Sto)(t:Stl.Tape)(e:Ending)(w':World):Prop :=
 ∃ (b:Nat) (c2:Nat→Col),e=.returned (.tuple #[.pointer (some ⟨b,0,none⟩),.nilIface])∧Ext w w' (kDo c) c2 vL∧StAt w' c2 b tp p s t
theorem StoAt.retape {w:World}{c:Nat→Col}{b tp:Nat}(tp2:Nat){s:Sto}(h:StoAt w c b s tp):StoAt (w.setCell ⟨b,3,none⟩ (.pointer (some ⟨tp2,0,none⟩))) c b s tp2∧Ext w (w.setCell ⟨b,3,none⟩ (.pointer (some ⟨tp2,0,none⟩))) c c (fun y=>decide (y=.sto)):=by
 obtain⟨bd,A,cap,zs,R,rc,hx⟩:=h.open;have hb:=qH hx.own 3 (.pointer (some ⟨tp2,0,none⟩));have e:Ext w (w.setCell ⟨b,3,none⟩ (.pointer (some ⟨tp2,0,none⟩))) c c (fun y=>decide (y=.sto)):=(Ext.refl w c _).setCell (fun _=>by show decide (c b=.sto)=true;rw[hx.col];rfl) _;exact⟨StoX.shut ⟨hb,hx.col,hx.dirs.ext e rfl (fun x hx=>by cases x<;>first | rfl | (cases hx)),hx.packs.ext e rfl,hx.eq,fun x hxm=>⟨(hx.ro x hxm).1,(hx.ro x hxm).2.ext e rfl⟩,hx.roots.ext e rfl⟩,e⟩
theorem qM0 {w w2:World}{c c2:Nat→Col}(h:Ext w w2 (kDo c) c2 (fun y=>vL y||mU y)):Ext w w2 (kDo c) c2 vL :=
 ⟨h.os,h.tape,h.output,h.size,fun k hk hs=>h.keep k hk (by rw[hs,qGy];rfl)⟩
theorem qLs {w:World}{c:Nat→Col}{tp:Nat}{p:Nat→Addr}{t:Stl.Tape}(ht:TapeAt w c tp t)(hE:Env w c p)(hb:t.b.length≤1048576)(n:Nat)(h1:1≤n)(h2:n≤512){rs:List (List UInt8)}(hrec:t.recover=(rs,⟨pV rs,false,none⟩))(hsh:∀ r∈rs,r.length≤250)(hmany:rs.length≤300){s:Sto}(hall:xH (Sto.new n) rs=some s) :
  Calls Tryz.prog 58 #[.pointer (some ⟨tp,0,none⟩),.int .i64 n] w (qOn p w c tp s ⟨pV rs,false,none⟩):=by
 have HNW:=Hh (qFi n h1 h2 w (kDo c));have HT0:=Hh (ht.ext (qJ2 w c) rfl rfl);have HEN0:=Hh (hE.ext (qJ2 w c) rfl);have HALL:=Hh hall;have HSH:=Hh hsh;have HRC:=Hh hrec;clear ht hE hrec hsh hall;go_enter Tryz.func58,Tryz.ntmps58;go_upto_region 6 with (go_at_call 11;refine HNW.o.mono ?_;rintro ev w1 ⟨b,tp0,c1,rfl,hge1,he1,hs1,_⟩;have HE1:=Hh he1;have HS1:=Hh hs1;have HGE:=Hh hge1;clear he1 hs1 hge1);have HT1:=Hh (HT0.o.ext HE1.o rfl rfl);have HEN1:=Hh (HEN0.o.ext HE1.o rfl);have HRV:=Hh (qGK HT1.o HEN1.o hb);rw[HRC.o] at HRV;go_upto_region 10 with (go_at_call 96;refine HRV.o.mono ?_;rintro ev w2 ⟨A2,cap2,c2,rfl,he2,ht2,hr2⟩;have HE2:=Hh he2;have HT2:=Hh ht2;have HR2:=Hh hr2;clear he2 ht2 hr2);have HS2:=Hh (HS1.o.ext HE2.o rfl (fun x hx=>by cases x<;>first | rfl | (cases hx)));have HEN2:=Hh (HEN1.o.ext HE2.o rfl);clear HNW HRV
 go_loopw [35] (fun a wr=>∃ (j:Nat) (cr:Nat→Col) (sj:Sto),a=.int .i64 j∧j≤rs.length∧Hg (OpSt w2 wr c2 cr b tp0 n rs j sj)) (fun a _=>rs.length-(intOf a).toNat)
 case atStart=>exact⟨0,c2,_,rfl,zw _,Hh ⟨Ext.refl _ _ _,HS2.o,rfl,qFm h2⟩⟩
 case round =>
  obtain⟨j,cr,sj,rfl,hj,HS⟩:=hrel;by_cases hjl:j<rs.length
  ·have i1:(j:Int)<(rs.length:Int):=by omega
   have i2:(0:Int)≤(j:Int):=by omega
   obtain⟨g,off,hA,hgl,q0⟩:=((HR2.o.ext HS.o.ext rfl).strs cap2).cellAt hjl;subst hA;obtain⟨sj',a,s1,hd,hch,hd1⟩:=qFs rs HALL.o j hjl;have hlen:=HSH.o _ (zO hjl);rw[HS.o.done] at hd;injection hd with hd
   subst hd;generalize rs[j]=line at *;have HD1:=Hh hd1;have HRN:=Hh (HS.o.run.step (by omega) hlen hch);obtain⟨xbd,xA,xcap,xzs,xR,xrc,hx⟩:=HS.o.sto.open;have HCC:=Hh (qBW hx (qLz HS.o.run (by omega)) (HEN2.o.ext HS.o.ext rfl) line (by omega));rw[hch] at HCC;clear hd1 hch hx;go_wp2_with (go_at_call 36;refine HCC.o.mono ?_;rintro ev w3 ⟨a3,er3,is3,rfl,rfl,hch⟩;obtain⟨⟨rfl,_⟩,c3,he3,hs3⟩:=qF5 hch;have HE3:=Hh he3;have HS3:=Hh hs3;clear he3 hs3 hch);go_roundw
   case rel=>exact⟨j+1,c3,s1,by go_num,hjl,Hh ⟨HS.o.ext.trans HE3.o,HS3.o,HD1.o,HRN.o⟩⟩
   case measure=>simp[intOf];omega
  ·have i1:¬ (j:Int)<(rs.length:Int):=by omega
   obtain rfl:j=rs.length:=by omega
   have hse:sj=s:=by
    have h3:=HS.o.done;rw[zk,HALL.o] at h3;injection h3 with h3
    exact h3.symm
   subst hse;obtain⟨xbd,xA,xcap,xzs,xR,xrc,hx⟩:=HS.o.sto.open;have q3:=ce3 hx.own;have f3:=qC hx.own 3;clear hx;obtain⟨h5,h6⟩:=HS.o.sto.retape tp;have H5:=Hh h5;have H6:=Hh h6;have HTF:=Hh ((HT2.o.ext HS.o.ext rfl rfl).ext h6 rfl rfl);have HEF:=Hh ((HEN2.o.ext HS.o.ext rfl).ext h6 rfl);clear h5 h6;go_wp2;go_ret2;exact⟨b,_,rfl,qM0 ((((HE1.o.mono (fun _ _=>rfl)).trans (HE2.o.mono (fun x hx=>by cases x<;>first | rfl | (cases hx)))).trans (HS.o.ext.mono (fun x hx=>by cases x<;>first | rfl | (cases hx)))).trans (H6.o.mono (fun x hx=>by cases x<;>first | rfl | (cases hx)))),H5.o,HTF.o,HEF.o⟩
def oW (w w2:World)(c c2:Nat→Col)(pb:Nat):Prop:=Ext w w2 (jC c pb .sto) c2 Sdo
section
variable {w w2:World}{c c2:Nat→Col}{pb b tp:Nat}{p:Nat→Addr}{s:Sto}{t:Stl.Tape}
theorem qCl (h:Ext w w2 c c2 Sdo):oW w w2 c c2 pb :=
 ⟨h.os,h.tape,h.output,h.size,fun k hk hs=>by
  by_cases e:k=pb
  ·subst e
   rw[qM] at hs
   cases hs
  ·rw[kK e] at hs ⊢
   exact h.keep k hk hs⟩
theorem gI (h:Below w.heap.size w w2):oW w w2 c c pb:=qCl (Ext.of_below h c Sdo)
theorem PlAt.ext (h:PlAt w c pb b tp p s t)(e:Ext w w2 c c2 S0):PlAt w2 c2 pb b tp p s t :=
 ⟨(e.kept h.own h.col rfl).1,(e.kept h.own h.col rfl).2,h.st.ext e⟩
def PyPost (p:Nat→Addr)(w:World)(c:Nat→Col)(pb tp:Nat)(q:Except Nat (List UInt8)×Sto×Stl.Tape)(ev:Ending)(w':World):Prop :=
 ∃ (a:ByteArray) (er:Value) (b':Nat) (c2:Nat→Col),ev=.returned (.tuple #[.string a,er])∧oW w w' c c2 pb∧PlAt w' c2 pb b' tp p q.2.1 q.2.2 ∧
  match q.1 with
  | .error cd=>er=jK p cd∧cd≠0
  | .ok x=>er=.nilIface∧a=⟨x.toArray⟩
theorem pX (h:PlAt w c pb b tp p s t){r:Except Nat (List UInt8)}{ev:Ending}{w':World}(hp:TlPost p w r ev w'):PyPost p w c pb tp (r,s,t) ev w':=by
 obtain⟨a,er,rfl,hb,hm⟩:=hp;exact⟨a,er,b,c,rfl,gI hb,h.below hb,hm⟩
theorem qLg (h:PlAt w c pb b tp p s t){line:List UInt8}{ev:Ending}{w':World}(hp:qNf p w c b tp s t line ev w'):PyPost p w c pb tp (yH s t line) ev w':=by
 obtain⟨a,er,c2,rfl,he,h1,h2,hm⟩:=hp;refine⟨a,er,b,c2,rfl,qCl he,⟨(he.kept h.own h.col rfl).1,(he.kept h.own h.col rfl).2,h1,h2,h.st.env.ext he rfl⟩,?_⟩;revert hm
 cases (yH s t line).1 with
 | error cd=>exact fun hm=>⟨hm.1,hm.2.1⟩
 | ok x=>exact id
theorem qNL (s:Sto)(t:Stl.Tape)(x:List UInt8):mW s t oN [x]=match qI x 6 with | none=>(.error 1,s,t) | some k=>if t.off then (.error 13,s,t) else (.ok bOk,s,{ t with cut:=some k }):=by
 unfold mW;rw[zM1 rfl];rfl
theorem qN7 (h:PlAt w c pb b tp p s t)(r:List (List UInt8))(hr:r.length=1)(hrl:∀ x∈r,x.length≤250)(A:Option Addr)(cr:Nat)(hs:Strs w (.slice A r.length cr) r) :
  Calls Tryz.prog 29 #[.pointer (some ⟨pb,0,none⟩),.slice A r.length cr] w (PyPost p w c pb tp (mW s t oN r)):=by
 obtain⟨x,rfl⟩:=List.length_eq_one_iff.1 hr;have hx:=hrl x (by simp);have HQ:=Hh (qNL s t x);generalize mW s t oN [x]=q at HQ ⊢;obtain⟨g,off,rfl,hgl,hq0⟩:=hs.cellAt (j:=0) (by simp);simp only[List.getElem_cons_zero,Nat.add_zero] at hq0;have HNU:=Hh (kH x (by omega) w h.st.env.vars);have HPL:=Hh h;have HLE:=Hh (fun n (hn:qI x 6=some n)=>(qA2 (by omega) hn).1);clear h hs hr hrl;simp only[zQ,List.length_nil];go_enter Tryz.func29,Tryz.ntmps29
 cases hn:qI x 6 with
 | none =>
  rw[hn] at HNU HQ;clear hn;go_upto_region 3 with (go_at_call 55;refine HNU.o.mono ?_;rintro ev w1 ⟨hb1,n',ok,rfl,hni⟩;have hok:ok=false:=(by rcases hni with ⟨_,h⟩ | ⟨m,h,_⟩;exact h;cases h);subst hok;have HB1:=Hh hb1;clear hb1 hni);have g1:w1.cell? ⟨1,0,none⟩=some (.iface 376 (.pointer (some (p 1)))):=((HPL.o.below HB1.o).st.env.errs.cell 1 (by decide) (by decide)).trans (by rw[qD p (by decide)]);go_quiet (fail);go_wp2;go_ret2;rw[HQ.o];exact⟨_,_,b,c,rfl,gI (Below.drewN HB1.o _),HPL.o.below (Below.drewN HB1.o _),by rw[qD p (by decide)];rfl,by decide⟩
 | some n =>
  rw[hn] at HNU HQ;have hnl:=HLE.o n hn;clear hn;go_upto_region 4 with (go_at_call 55;refine HNU.o.mono ?_;rintro ev w1 ⟨hb1,n',ok,rfl,hni⟩;obtain⟨rfl,rfl⟩:n'=(n:Int)∧ok=true:=(by rcases hni with ⟨h,_⟩ | ⟨m,h,h1,h2⟩;cases h;cases h;exact⟨h2,h1⟩);have HB1:=Hh hb1;clear hb1 hni);have HP1:=Hh (HPL.o.below HB1.o);have HTP:=Hh (qHC HP1.o.st.sto);have p0:=ce0 HP1.o.own
  cases hof:t.off with
  | true =>
   have HQ2:=Hh (HQ.o.trans (zM1 hof));have HCT:=Hh (qI1 HP1.o.st.tape HP1.o.st.env.errs hof n (by omega));clear hof;go_wp2_with (first
    | (go_at_call 56;(with_reducible refine HTP.o.mono ?_);rintro ev wz ⟨rfl,hwz⟩;have hwz:=hwz.symm;subst hwz)
    | (go_at_call 57;(with_reducible refine HCT.o.mono ?_);rintro ev wz ⟨rfl,hwz⟩;have hwz:=hwz.symm;subst hwz))
   go_ret2;rw[HQ2.o];exact⟨_,_,b,c,rfl,gI HB1.o,HP1.o,by rw[qD p (by decide)];rfl,by decide⟩
  | false =>
   have HQ2:=Hh (HQ.o.trans (zL1 (by rw[hof];decide)));have HCT:=Hh (qFQ HP1.o.st.tape hof n (by omega));clear hof;go_wp2_with (first
    | (go_at_call 56;(with_reducible refine HTP.o.mono ?_);rintro ev wz ⟨rfl,hwz⟩;have hwz:=hwz.symm;subst hwz)
    | (go_at_call 57;(with_reducible refine HCT.o.mono ?_);rintro ev w2 ⟨rfl,he2,ht2⟩;have HE2:=Hh he2;have HT2:=Hh ht2;clear he2 ht2))
   go_ret2;rw[HQ2.o];have he:=((Ext.of_below HB1.o c vL).trans HE2.o);exact⟨_,_,b,c,rfl,qCl (he.mono fun x hx=>by cases x<;>first | rfl | (cases hx)),⟨(HE2.o.kept HP1.o.own HP1.o.col rfl).1,HP1.o.col,HP1.o.st.cutAt HE2.o HT2.o⟩,rfl,rfl⟩
theorem qJZ (s:Sto)(t:Stl.Tape):mW s t pU []=match replay 0 (Sto.new 64) t.recover.1 with | .ok s1=>(.ok bOk,s1,t.recover.2) | .error e=>(.error e.2,s,t.recover.2):=by
 unfold mW;rw[zL1 (by decide),zM1 rfl]
 cases replay 0 (Sto.new 64) t.recover.1<;>rfl
theorem PlAt.moved {w1:World}{c1:Nat→Col}{b1:Nat}{s1:Sto}{t1:Stl.Tape}(h:PlAt w c pb b tp p s t)(e:Ext w w1 (kDo c) c1 vL)(hs:StAt w1 c1 b1 tp p s1 t1) :
  oW w (w1.setCell ⟨pb,0,none⟩ (.pointer (some ⟨b1,0,none⟩))) c c1 pb∧PlAt (w1.setCell ⟨pb,0,none⟩ (.pointer (some ⟨b1,0,none⟩))) c1 pb b1 tp p s1 t1∧w1.cell? ⟨pb,0,none⟩=some (.pointer (some ⟨b,0,none⟩))∧w1.frozen? ⟨pb,0,none⟩=false:=by
 have hk:kDo c pb=.dead:=by unfold kDo;rw[h.col];decide
 obtain⟨h1,h2⟩:=e.kept h.own hk rfl;have hpl:pb<w.heap.size:=qA h.own;have e2:Ext w1 (w1.setCell ⟨pb,0,none⟩ (.pointer (some ⟨b1,0,none⟩))) c1 c1 oG:=(Ext.refl w1 c1 oG).setCell (fun _=>by show decide (c1 pb=.dead)=true;rw[h2];rfl) _;have e3:Ext w w1 (jC c pb .sto) c1 Sdo:=⟨e.os,e.tape,e.output,e.size,fun k hk hs=>by
  by_cases ek:k=pb
  ·subst ek
   rw[qM] at hs
   cases hs
  ·rw[kK ek] at hs ⊢
   have hd:c k=.ro∨c k=.dead:=by
    cases hc:c k<;>rw[hc] at hs<;>first | exact .inl rfl | exact .inr rfl | (cases hs)
   have hkd:kDo c k=c k:=by unfold kDo;rcases hd with h | h<;>rw[h]<;>decide
   obtain⟨a1,a2⟩:=e.keep k hk (by rw[hkd];rcases hd with h | h<;>rw[h]<;>rfl)
   exact⟨a1,a2.trans hkd⟩⟩
 exact⟨e3.setCell (a:=⟨pb,0,none⟩) (fun _=>by show Sdo (jC c pb .sto pb)=true;rw[qM];rfl) _,⟨qH h1 0 _,h2,hs.dead e2⟩,ce0 h1,qC h1 0⟩
theorem qKE {i:Nat}{rs:List (List UInt8)}{x:List UInt8}(h:PlAt w c pb b tp p s t)(hi:i≤300)(ho:ScrOk 64 i s t rs x)(v:Value) :
  Calls Tryz.prog 30 #[.pointer (some ⟨pb,0,none⟩),v] w (PyPost p w c pb tp (mW s t pU [])):=by
 have HQ:=Hh (qJZ s t);generalize mW s t pU []=q at HQ ⊢;obtain⟨a1,a2,a3⟩:=qCn ho;rw[a2,a1] at HQ;have HPL:=Hh h;have HTP:=Hh (qHC h.st.sto);have HOP:=Hh (show Calls Tryz.prog 58 #[.pointer (some ⟨tp,0,none⟩),.int .i64 64] w _ from qLs h.st.tape h.st.env (by have:=ho.len;omega) 64 (by decide) (by decide) a1 ho.keep.short (by have:=ho.keep.many;omega) ho.keep.again);have p0:=ce0 h.own;clear h ho a1 a2 a3;go_enter Tryz.func30,Tryz.ntmps30;go_upto_region 4 with (first
  | (go_at_call 56;(with_reducible refine HTP.o.mono ?_);rintro ev wz ⟨rfl,hwz⟩;have hwz:=hwz.symm;subst hwz)
  | (go_at_call 58;(with_reducible refine HOP.o.mono ?_);rintro ev w2 ⟨b1,c1,rfl,he1,hs1⟩;have HE1:=Hh he1;have HS1:=Hh hs1;clear he1 hs1))
 obtain⟨m1,m2,m3,m4⟩:=HPL.o.moved HE1.o HS1.o;have HM1:=Hh m1;have HM2:=Hh m2;clear m1 m2 p0;go_wp2;go_ret2;rw[HQ.o];exact⟨_,_,b1,c1,rfl,HM1.o,HM2.o,rfl,rfl⟩
end
structure CX where
 kind:List UInt8
 path:List UInt8
 t0:ByteArray
 t1:ByteArray
 t2:Bool
 t3:Option Addr
 t4:Nat
 t5:Nat
def gM (y:CX):List Value:=[.string ⟨y.kind.toArray⟩,.string ⟨y.path.toArray⟩,.string y.t0,.string y.t1,.bool y.t2,.slice y.t3 y.t4 y.t5]
def CX.told (y:CX):List UInt8:=y.kind++58::y.path
structure DfAt (w0 W:World)(b:Nat)(ys:List CX):Prop where
 o:∃ A c,W.heap[b]?=some (.cells #[.slice A ys.length c] 191 (0,0))∧W.ownsRow w0.heap.size 141 6 (.slice A ys.length c) ys.length (ys.flatMap gM)
 old:w0.heap.size≤b
 below:Below w0.heap.size w0 W
theorem DfAt.later {w0 W W':World}{b:Nat}{ys:List CX}(h:DfAt w0 W b ys)(hb:Below W.heap.size W W'):DfAt w0 W' b ys:=by
 obtain⟨A,c,h1,h2⟩:=h.o;exact⟨⟨A,c,(hb.block _ (zN1 h1)).trans h1,h2.kept (Below.toGrown hb none) (by cases Value.ownBlock (Value.slice A ys.length c)<;>simp)⟩,h.old,h.below.trans (hb.mono h.below.size)⟩
theorem dH {W:World}{base:Nat}{e:TypeId}{size:Nat}{v:Value}{n:Nat}{xs:List Value}(h:W.ownsRow base e size v n xs){b:Nat}{cs:Array Value}{T:TypeId}{fr:Nat×Nat}(hb:W.heap[b]?=some (.cells cs T fr))(hT:T≠e):some b≠v.ownBlock:=by
 intro e
 rcases h.2 with ⟨hv,_⟩ | ⟨g,cap,cur,hv,_,hg,_⟩
 ·rw[hv] at e;simp[Value.ownBlock] at e
 ·rw[hv] at e;have:b=g:=by simpa[Value.ownBlock] using e
  subst this;rw[hb] at hg;injection hg with hg
  injection hg with _ hg
  exact hT hg
theorem qNt:xX 141 (.agg #[.string ⟨#[]⟩,.string ⟨#[]⟩,.string ⟨#[]⟩,.string ⟨#[]⟩,.bool false,.slice none 0 0]) 6 96:=xQ (by kernel_rfl) rfl (by decide)
theorem DfAt.more {w0 W w2 w3:World}{b:Nat}{ys:List CX}{Ao A3:Option Addr}{co c3:Nat}(h:DfAt w0 W b ys)(y:CX)(hb2:Below W.heap.size W w2)(h1:w2.heap[b]?=some (.cells #[.slice Ao ys.length co] 191 (0,0)))
  (h3:w2.ownsRow w0.heap.size 141 6 (.slice Ao ys.length co) ys.length (ys.flatMap gM)) (h4:w3.ownsRow w0.heap.size 141 6 (.slice A3 (ys.length+1) c3) (ys.length+1) (ys.flatMap gM++gM y))
  (hg:w2.grownBy w3 (Value.slice Ao ys.length co).ownBlock):DfAt w0 (w3.setCell ⟨b,0,none⟩ (.slice A3 (ys.length+1) c3)) b (ys++[y]):=by
 have s3:=(hg.block _ (zN1 h1) (dH h3 h1 (by decide))).trans h1;have hz:=h.below.size;have hb2':Below w0.heap.size w0 w2:=h.below.trans (hb2.mono hz);have hb3:Below w0.heap.size w0 w3:=hb2'.grown hg hb2'.size (fun k hk=>(h3.lt k hk).1);refine⟨⟨A3,c3,?_,?_⟩,h.old,hb3.setCell h.old _⟩
 ·rw[qH s3 0 _];simp
 ·rw[zP,List.flatMap_append];simpa using zO1 h4 (dH h4 s3 (by decide)).symm (.slice A3 (ys.length+1) c3)
theorem qNV {w0 W:World}{b:Nat}{ys:List CX}(h:DfAt w0 W b ys)(hy:ys.length≤1000000)(y:CX) :
  Calls Tryz.prog 155 #[.pointer (some ⟨b,0,none⟩),.string ⟨y.kind.toArray⟩,.string ⟨y.path.toArray⟩,.agg #[.string y.t0,.string y.t1,.bool y.t2,.slice y.t3 y.t4 y.t5]] W fun e W'=>e=.returned (.tuple #[])∧DfAt w0 W' b (ys++[y]):=by
 obtain⟨i0,hi,hz0,hz1,hz2⟩:=qNt.info;have Hi:=Hh hi;have Hz0:=Hh hz0;have Hz1:=Hh hz1;have Hz2:=Hh hz2;have hb1:Below W.heap.size W (W.alloc (.cells #[.string y.t0,.string y.t1,.bool y.t2,.slice y.t3 y.t4 y.t5] 134)):=(zB _ W).alloc (zo _) _;have HS:=Hh h;have HB1:=Hh hb1;have HX:=Hh (zK1 W (.cells #[.string y.t0,.string y.t1,.bool y.t2,.slice y.t3 y.t4 y.t5] 134));have HS1:=Hh (h.later hb1);clear h hb1 hi hz0 hz1 hz2;go_enter Tryz.func155,Tryz.ntmps155;go_upto_region 1 with fail;generalize W.alloc (.cells #[.string y.t0,.string y.t1,.bool y.t2,.slice y.t3 y.t4 y.t5] 134)=W1 at *;obtain⟨Ao,co,ho1,ho2⟩:=HS1.o.o;have HO1:=Hh ho1;have HO2:=Hh ho2;obtain⟨q0,q1,q2,q3⟩:=cq HX.o;have c5:=ce0 ho1;have hb2:=(zB W1.heap.size W1).alloc (zo _) (.cells #[.string ⟨y.kind.toArray⟩,.string ⟨y.path.toArray⟩,.string y.t0,.string y.t1,.bool y.t2,.slice y.t3 y.t4 y.t5] 141);have HB2:=Hh hb2;have HB2d:=Hh hb2.drew;have HOX:=Hh ((hb2.block _ (zN1 HO1.o)).trans HO1.o);have HO3:=Hh (HO2.o.alloc (.cells #[.string ⟨y.kind.toArray⟩,.string ⟨y.path.toArray⟩,.string y.t0,.string y.t1,.bool y.t2,.slice y.t3 y.t4 y.t5] 141));have HO3d:=Hh (show (W1.alloc (.cells #[.string ⟨y.kind.toArray⟩,.string ⟨y.path.toArray⟩,.string y.t0,.string y.t1,.bool y.t2,.slice y.t3 y.t4 y.t5] 141)).drew.ownsRow w0.heap.size 141 6 (.slice Ao ys.length co) ys.length (ys.flatMap gM) from HO3.o);have c5a:=ce0 HOX.o;clear ho1 ho2 hb2
 go_region_law
  (first
   | (refine Stl.step_app _ (by rfl) (.tmp 12) (.tmp 17) 137 (by rfl) w0.heap.size 141 i0 _ 6 96 Tryz.underlying137 Hi.o Hz0.o Hz1.o Hz2.o rfl (by decide) (.slice Ao ys.length co) ys.length (ys.flatMap gM) (by rfl) HO3.o (some ⟨W1.heap.size,0,none⟩) 1 1 [.string ⟨y.kind.toArray⟩,.string ⟨y.path.toArray⟩,.string y.t0,.string y.t1,.bool y.t2,.slice y.t3 y.t4 y.t5] (by rfl) (by simp) (fun h=>by cases h) (jD _ _ _) (by simp[Value.oneCell']) (by unfold maxLen;omega) (by omega) (zq HS1.o.below.size HB2.o.size) ?_;intro A3 c3 w3 hown3 hgr3 _;have HMR:=Hh (HS1.o.more y HB2.o HOX.o HO3.o hown3 hgr3);have hs3:=(hgr3.block _ (zN1 HOX.o) (dH HO3.o HOX.o (by decide))).trans HOX.o;have c5':=ce0 hs3;have f5':=qC hs3 0;clear hown3 hgr3 hs3)
   | (refine Stl.step_app _ (by rfl) (.tmp 12) (.tmp 17) 137 (by rfl) w0.heap.size 141 i0 _ 6 96 Tryz.underlying137 Hi.o Hz0.o Hz1.o Hz2.o rfl (by decide) (.slice Ao ys.length co) ys.length (ys.flatMap gM) (by rfl) HO3d.o (some ⟨W1.heap.size,0,none⟩) 1 1 [.string ⟨y.kind.toArray⟩,.string ⟨y.path.toArray⟩,.string y.t0,.string y.t1,.bool y.t2,.slice y.t3 y.t4 y.t5] (by rfl) (by simp) (fun h=>by cases h) (jD _ _ _) (by simp[Value.oneCell']) (by unfold maxLen;omega) (by omega) (zq HS1.o.below.size HB2d.o.size) ?_;intro A3 c3 w3 hown3 hgr3 _;have HMR:=Hh (HS1.o.more y HB2d.o HOX.o HO3d.o hown3 hgr3);have hs3:=(hgr3.block _ (zN1 HOX.o) (dH HO3d.o HOX.o (by decide))).trans HOX.o;have c5':=ce0 hs3;have f5':=qC hs3 0;clear hown3 hgr3 hs3)
   | fail)
 all_goals
  go_end0;exact⟨rfl,HMR.o⟩
theorem mF {w0 W:World}{b:Nat}{ys:List CX}(h:DfAt w0 W b ys)(hy:ys.length≤1000000)(kd pt:List UInt8)(t0 t1:ByteArray)(t2:Bool)(t3:Option Addr)(t4 t5:Nat)(kb pb:ByteArray)(hk:kb=⟨kd.toArray⟩)(hp:pb=⟨pt.toArray⟩) :
  Calls Tryz.prog 155 #[.pointer (some ⟨b,0,none⟩),.string kb,.string pb,.agg #[.string t0,.string t1,.bool t2,.slice t3 t4 t5]] W fun e W'=>e=.returned (.tuple #[])∧DfAt w0 W' b (ys++[⟨kd,pt,t0,t1,t2,t3,t4,t5⟩]):=by
 subst hk hp;exact qNV h hy ⟨kd,pt,t0,t1,t2,t3,t4,t5⟩
end Go.Proofs.YtbmkaekimccdgaaGreatDoor
