/- Lemmas. -/
import Derived.Test.YtbmkaekimccdgaaGreatDoorBm12
set_option maxHeartbeats 16000000
set_option maxRecDepth 1000000
set_option linter.all false
namespace Go.Proofs.YtbmkaekimccdgaaGreatDoor
open Go.RowKit
theorem qML (name:List UInt8)(hl:name.length≤140737488355328)(v0 v1 v2 v3:Value)(w:World) :
  Calls Tryz.prog 258 #[.agg #[.string ⟨name.toArray⟩,v0,v1,v2,v3]] w fun e w'=>e=.returned (.bool (!Stl.isName name))∧Below w.heap.size w w':=by
 have hN:=fun W=>gD name W (by omega)
 generalize Stl.isName name=r at hN;have HN:=Hh hN;clear hN;go_enter Tryz.func258,Tryz.ntmps258;go_wp2_with fail;refine(HN.o _).mono ?_;rintro e w1 ⟨rfl,hb⟩;go_wp2;go_ret;exact⟨rfl,(Below.alloc (zB _ w) (zo _) _).trans (hb.mono (by simp))⟩
def KidsOf (w:World)(A:Option Addr)(ks:List (List UInt8×Stl.Nd)):Prop:=ks≠[]→∃ b off,A=some ⟨b,off,none⟩∧b<w.heap.size∧KidsAt w b off ks
theorem KidsOf.later {w w':World}{A:Option Addr}{ks:List (List UInt8×Stl.Nd)}(h:KidsOf w A ks)(hb:Below w.heap.size w w'):KidsOf w' A ks:=fun hn=>by
 obtain⟨b,off,e,h1,h2⟩:=h hn;exact⟨b,off,e,zt h1 hb.size,KidsAt.later hb h1 ks off h2⟩
theorem KidsOf.at {w:World}{A:Option Addr}{ks:List (List UInt8×Stl.Nd)}(h:KidsOf w A ks){j:Nat}(hj:j<ks.length):∃ b off,A=some ⟨b,off,none⟩∧b<w.heap.size∧(w.cell? ⟨b,off+j*5,none⟩=some (.string ⟨(ks[j].1).toArray⟩)∧(ks[j].1).length≤140737488355328) ∧
  ∃ v0 v1 v2 v3,w.cell? ⟨b,off+j*5+1,none⟩=some v0∧w.cell? ⟨b,off+j*5+2,none⟩=some v1∧w.cell? ⟨b,off+j*5+3,none⟩=some v2∧w.cell? ⟨b,off+j*5+4,none⟩=some v3∧NodeAt w (ks[j].2) [v0,v1,v2,v3]:=by
 obtain⟨b,off,e,h1,h2⟩:=h (by intro e;subst e;simp at hj);exact⟨b,off,e,h1,KidsAt.at ks off j (ks[j].1) (ks[j].2) h2 (zL hj)⟩
theorem qEd (A:Option Addr)(c:Nat)(ks:List (List UInt8×Stl.Nd))(hc:ks.length≤c)(hc2:ks.length≤140737488355328)(w:World)(hk:KidsOf w A ks) :
  Calls Tryz.prog 299 #[.slice A ks.length c,.func (.func 258) #[] #[]] w fun e w'=>(∃ i:Int,e=.returned (.int .i64 i)∧decide (0≤i)=!((ks.map (·.1)).all Stl.isName))∧Below w.heap.size w w':=by
 have HK:=Hh hk;clear hk;have HE:Hg (∀ r,r=(ks.map (·.1)).all Stl.isName→r=(ks.map (·.1)).all Stl.isName):=Hh (fun _ h=>h);obtain⟨r,hr⟩:∃ r,r=(ks.map (·.1)).all Stl.isName:=⟨_,rfl⟩;rw[← hr];have HR:=Hh hr;clear hr HE;go_enter Tryz.func299,Tryz.ntmps299;go_wp2_with fail
 go_loopw [8] (fun a wr=>Below w.heap.size w wr∧∃ k:Nat,k≤ks.length∧a=.int .i64 k∧Hg (((ks.take k).map (·.1)).all Stl.isName=true)) (fun a _=>ks.length-(intOf a).toNat)
 case atStart=>exact⟨zB _ _,0,zw _,rfl,Hh rfl⟩
 case round =>
  obtain⟨hb,k,hk,rfl,HP⟩:=hrel;have HB:=Hh hb;clear hb;by_cases hkn:k<ks.length
  ·have i1:(k:Int)<(ks.length:Int):=by omega
   have i2:(0:Int)≤(k:Int):=by omega
   obtain⟨b,off,rfl,hlt,⟨h0,hl⟩,v0,v1,v2,v3,c1,c2,c3,c4,hn⟩:=(HK.o.later HB.o).at hkn;have HX:=Hh (show ks.take (k+1)=ks.take k++[ks[k]] from zn hkn);have HM:=Hh (show ks[k].1∈ks.map (·.1) from zb.2 ⟨_,zO hkn,rfl⟩);generalize ks[k]=kd at HX h0 hl hn HM;obtain⟨nm,x⟩:=kd;simp only at h0 hl hn;clear hn;go_wp2_with fail;refine(qML nm hl v0 v1 v2 v3 _).mono ?_;rintro e w2 ⟨rfl,hb2⟩;have HB2:=Hh (HB.o.trans (hb2.mono HB.o.size));clear hb2 h0 c1 c2 c3 c4
   cases hq:Stl.isName nm
   ·have HF:=Hh (show r=false by
     rw[HR.o,Bool.eq_false_iff]
     intro h
     have:=List.all_eq_true.1 h _ HM.o
     simp only[hq] at this
     cases this)
    clear hq;go_wp2;go_ret;refine⟨⟨_,rfl,?_⟩,HB2.o⟩;rw[HF.o];simp
   ·have HQ:=Hh hq;clear hq;go_wp2;go_roundw
    case rel =>
     refine⟨HB2.o,k+1,hkn,rfl,Hh ?_⟩;rw[HX.o,zU,List.all_append,HP.o];simp[HQ.o]
    case measure=>simp[intOf];omega
  ·have i1:¬ (k:Int)<(ks.length:Int):=by omega
   have HF:=Hh (show r=true by
    have:=HP.o
    rw[zm (by omega)] at this
    rw[HR.o,this])
   go_wp2;go_ret;refine⟨⟨_,rfl,?_⟩,HB.o⟩;rw[HF.o];decide
theorem qAa (A:Option Addr)(c:Nat)(ks:List (List UInt8×Stl.Nd))(hc:ks.length≤c)(hc2:ks.length≤140737488355328)(w:World)(hk:KidsOf w A ks) :
  Calls Tryz.prog 257 #[.slice A ks.length c,.func (.func 258) #[] #[]] w fun e w'=>e=.returned (.bool !((ks.map (·.1)).all Stl.isName))∧Below w.heap.size w w':=by
 have h:=qEd A c ks hc hc2 w hk;generalize (!((ks.map (·.1)).all Stl.isName))=r at h;clear hk;go_enter Tryz.func257,Tryz.ntmps257;go_wp2_with fail;refine h.mono ?_;rintro e w' ⟨⟨i,rfl,hi⟩,hb⟩;have HI:=Hh hi;clear hi;go_wp2;go_ret;exact⟨by rw[← HI.o];rfl,hb⟩
end Go.Proofs.YtbmkaekimccdgaaGreatDoor
namespace Stl
theorem risesB_at:∀ (l:List (List UInt8)) (k:Nat),gL l=true→∀ (h:k+1<l.length),l[k]'(by omega)<l[k+1]
 | [],_,_,h=>by simp at h
 | [_],_,_,h=>by simp at h
 | a::b::r,0,hr,_=>by
  simp only[gL,zC,decide_eq_true_eq] at hr;exact hr.1
 | a::b::r,k+1,hr,h=>by
  simp only[gL,zC,decide_eq_true_eq] at hr;have:=risesB_at (b::r) k hr.2 (by simpa using h);simpa using this
theorem risesB_of:∀ (l:List (List UInt8)),(∀ k (h:k+1<l.length),l[k]'(by omega)<l[k+1])→gL l=true
 | [],_=>rfl
 | [_],_=>rfl
 | a::b::r,h=>by
  simp only[gL,zC,decide_eq_true_eq];refine⟨h 0 (by simp),risesB_of (b::r) fun k hk=>?_⟩;have:=h (k+1) (by simpa using hk);simpa using this
theorem own_none (k d:qB)(e:Bool)(nms:List qB)(h:k≠kFile∧k≠kDir∧k≠kLink):ownErrP k d e nms=4:=by
 unfold ownErrP;rw[zM1 h]
theorem own_rest (k d:qB)(e:Bool)(nms:List qB)(h:k=kFile∨k=kDir∨k=kLink):ownErrP k d e nms =
  if shapeB k d e nms.length=false then 3 else if 2000<d.length∨(k=kLink∧(d.length<1∨40<d.length)) then 2
  else if k=kLink∧d.any badByte=true then 1 else if nms.all isName=false then 5 else if gL nms=false then 10 else 0:=by
 unfold ownErrP;have fd:¬ kDir=kFile:=by decide
 have fl:¬ kLink=kFile:=by decide
 have dl:¬ kLink=kDir:=by decide
 have df:¬ kFile=kDir:=by decide
 have lf:¬ kFile=kLink:=by decide
 have ld:¬ kDir=kLink:=by decide
 have hn:nms=[]↔nms.length=0:=by cases nms<;>simp
 rw[zL1 (by rintro ⟨a,b,c⟩;rcases h with h | h | h<;>contradiction)];rw[show (d.any fun c=>decide (c<33)||decide (126<c))=d.any badByte from rfl]
 rcases h with rfl | rfl | rfl
 ·have e1:((kFile≠kDir∧nms≠[])∨(kFile≠kFile∧e=true)∨(kFile=kDir∧d≠[]))↔shapeB kFile d e nms.length=false:=by
   simp only[shapeB,zM1,ne_eq,df,not_false_iff,true_and,not_true_eq_false,false_and,or_false,hn];simp
  by_cases hs:shapeB kFile d e nms.length=false
  ·rw[zM1 (e1.2 hs),zM1 hs]
  ·rw[zL1 (fun h=>hs (e1.1 h)),zL1 hs]
 ·have e1:((kDir≠kDir∧nms≠[])∨(kDir≠kFile∧e=true)∨(kDir=kDir∧d≠[]))↔shapeB kDir d e nms.length=false:=by
   simp only[shapeB,zL1 fd,zM1,ne_eq,fd,not_false_iff,true_and,not_true_eq_false,false_and,false_or]
   cases e<;>cases d<;>simp
  by_cases hs:shapeB kDir d e nms.length=false
  ·rw[zM1 (e1.2 hs),zM1 hs]
  ·rw[zL1 (fun h=>hs (e1.1 h)),zL1 hs]
 ·have e1:((kLink≠kDir∧nms≠[])∨(kLink≠kFile∧e=true)∨(kLink=kDir∧d≠[]))↔shapeB kLink d e nms.length=false:=by
   simp only[shapeB,zL1 fl,zL1 dl,ne_eq,fl,dl,not_false_iff,true_and,false_and,or_false,hn]
   cases e<;>simp
  by_cases hs:shapeB kLink d e nms.length=false
  ·rw[zM1 (e1.2 hs),zM1 hs]
  ·rw[zL1 (fun h=>hs (e1.1 h)),zL1 hs]
end Stl
namespace Go.Proofs.YtbmkaekimccdgaaGreatDoor
open Go.RowKit
theorem uA (p:Nat→Addr)(c:Nat)(h:c≠0):jK p c=.iface 376 (.pointer (some (p c))):=zL1 h
theorem dN {x y:List UInt8}(h:y<x):Op.bytesLess x y=false∧(x==y)=false :=
 ⟨by rw[bytesLess_eq,decide_eq_false_iff_not];exact fun h2=>Stl.blt_irrefl _ (List.lt_trans h h2),by rw[zG1];rintro rfl;exact Stl.blt_irrefl _ h⟩
theorem qD5 {x y:List UInt8}(h:¬ y<x)(hne:x≠y):Op.bytesLess x y=true∧(x==y)=false :=
 ⟨by
  rw[bytesLess_eq,decide_eq_true_iff]
  rcases Stl.blt_tri x y with h1 | h1 | h1
  ·exact h1
  ·exact absurd h1 hne
  ·exact absurd h1 h,by rw[zG1];exact hne⟩
def dO (p:Nat→Addr)(w:World)(r:Nat)(e:Ending)(w':World):Prop:=e=.returned (jK p r)∧Below w.heap.size w w'
theorem qKh (k d:List UInt8)(e:Bool)(A:Option Addr)(c:Nat)(ks:List (List UInt8×Stl.Nd))(hc:ks.length≤c)(hc2:ks.length≤140737488355328)(hd:d.length≤140737488355328)(w:World)(p:Nat→Addr)(hE:Errs w p)(hk:KidsOf w A ks)
  (h0:k≠Stl.kFile∧k≠Stl.kDir∧k≠Stl.kLink) (h1:(k==[102,105,108,101])=false) (h2:(k==[100,105,114])=false) (h3:(k==[108,105,110,107])=false) :
  Calls Tryz.prog 203 #[.agg #[.string ⟨k.toArray⟩,.string ⟨d.toArray⟩,.bool e,.slice A ks.length c]] w (dO p w (Stl.ownErrP k d e (ks.map (·.1)))):=by
 have HE:=Hh hE;have HK:=Hh hk;clear hE hk;have HF:=Hh (Stl.own_none k d e (ks.map (·.1)) h0);generalize Stl.ownErrP k d e (ks.map (·.1))=r at HF;have hb:Below w.heap.size w (w.alloc (.cells #[.string ⟨k.toArray⟩,.string ⟨d.toArray⟩,.bool e,.slice A ks.length c] 134)):=(zB _ w).alloc (zo _) _;have g4:=((HE.o.later hb).at_ 4 (by omega) (by omega)).1;unfold wA at g4;have HB:=Hh hb;clear hb h0;go_enter Tryz.func203,Tryz.ntmps203;go_wp2;go_ret;exact⟨by rw[HF.o];rfl,HB.o⟩
theorem qLU (k d:List UInt8)(e:Bool)(A:Option Addr)(c:Nat)(ks:List (List UInt8×Stl.Nd))(hc:ks.length≤c)(hc2:ks.length≤140737488355328)(hd:d.length≤140737488355328)(w:World)(p:Nat→Addr)(hE:Errs w p)(hk:KidsOf w A ks)
  (h0:k=Stl.kFile∨k=Stl.kDir∨k=Stl.kLink) (hkl:¬ k=Stl.kLink) (h1:(k==[102,105,108,101])=true) (h2:(k==[100,105,114])=false) (h3:(k==[108,105,110,107])=false) :
  Calls Tryz.prog 203 #[.agg #[.string ⟨k.toArray⟩,.string ⟨d.toArray⟩,.bool e,.slice A ks.length c]] w (dO p w (Stl.ownErrP k d e (ks.map (·.1)))):=by
 have HE:=Hh hE;have HK:=Hh hk;clear hE hk;have HR:=Hh (Stl.own_rest k d e (ks.map (·.1)) h0);rw[zT] at HR;generalize Stl.ownErrP k d e (ks.map (·.1))=r at HR;have HKL:=Hh hkl;clear h0 hkl;go_enter Tryz.func203,Tryz.ntmps203;go_wp2_with fail;refine(qCk k d e _ ks.length c (by omega) _).mono ?_;rintro ev w1 ⟨rfl,hb⟩;have HB1:=Hh ((Below.alloc (zB _ w) (zo _) _).trans (hb.mono (by simp)));have HX1:=Hh ((hb.block _ (by simp)).trans (zK1 _ _));clear hb;by_cases hsh:Stl.shapeB k d e ks.length=false
 ·have HF:=Hh (show r=3 by rw[HR.o,zM1 hsh]);rw[hsh];have g3:=((HE.o.later HB1.o).at_ 3 (by omega) (by omega)).1;unfold wA at g3;clear hsh;go_wp2;go_ret;exact⟨by rw[HF.o];rfl,HB1.o⟩
 have hr:=HR.o;rw[zL1 hsh] at hr;simp only[Bool.not_eq_false] at hsh;rw[hsh];clear HR hsh;have HR:=Hh hr;clear hr;have c0:=ce0 HX1.o;have c1:=ce1 HX1.o;have c3:=ce3 HX1.o;by_cases hbd:2000<d.length
 ·have HF:=Hh (show r=2 by rw[HR.o,zM1 (.inl hbd)]);have i1:(2000:Int)<(d.length:Int):=by omega
  have g2:=((HE.o.later HB1.o).at_ 2 (by omega) (by omega)).1;unfold wA at g2;clear hbd;go_wp2;go_ret;exact⟨by rw[HF.o];rfl,HB1.o⟩
 have hr:=HR.o;rw[zL1 (by rintro (h | ⟨h,_⟩);exact hbd h;exact HKL.o h),zL1 (fun h=>HKL.o h.1)] at hr;clear HR;have HR:=Hh hr;have i1:(d.length:Int)≤2000:=by omega
 clear hr hbd;have c3:=ce3 HX1.o;go_wp2_with fail;refine(qAa A c ks hc hc2 _ (HK.o.later HB1.o)).mono ?_;rintro ev w3 ⟨rfl,hb⟩;have HB3:=Hh (HB1.o.trans (hb.mono HB1.o.size));have HX3:=Hh ((hb.block _ (zN1 HX1.o)).trans HX1.o);clear hb c3;by_cases hal:(ks.map (·.1)).all Stl.isName=false
 ·have HF:=Hh (show r=5 by rw[HR.o,zM1 hal]);rw[hal];have g5:=((HE.o.later HB3.o).at_ 5 (by omega) (by omega)).1;unfold wA at g5;clear hal;go_wp2;go_ret;exact⟨by rw[HF.o];rfl,HB3.o⟩
 have hr:=HR.o;rw[zL1 hal] at hr;simp only[Bool.not_eq_false] at hal;rw[hal];clear HR hal;have HR:=Hh hr;clear hr;go_wp2_with fail
 go_loopw [3] (fun a wr=>Below w3.heap.size w3 wr∧∃ j:Nat,j≤ks.length∧a=.int .i64 ((j+1:Nat):Int)∧Hg (∀ i (h:i+1<ks.length),i<j→ks[i].1<ks[i+1].1)) (fun a _=>ks.length+2-(intOf a).toNat)
 case atStart=>exact⟨zB _ _,0,by omega,rfl,Hh (fun i _ h=>by omega)⟩
 case round =>
  obtain⟨hb,j,hj,rfl,HP⟩:=hrel;have HB4:=Hh (HB3.o.trans (hb.mono HB3.o.size));have c3:=ce3 ((hb.block _ (zN1 HX3.o)).trans HX3.o);have HBr:=Hh hb;clear hb;by_cases hlt:j+1<ks.length
  ·have i1:((j+1:Nat):Int)<(ks.length:Int):=by omega
   have i2:(j:Int)+1<(ks.length:Int):=by omega
   have i3:(0:Int)≤(j:Int):=by omega
   have hj0:j<ks.length:=by omega
   obtain⟨b,off,rfl,hbl,⟨k1,hl1⟩,_⟩:=(HK.o.later HB4.o).at hlt;obtain⟨b',off',e',_,⟨k2,hl2⟩,_⟩:=(HK.o.later HB4.o).at hj0;injection e' with e'
   injection e' with e1 e2 e3
   subst e1 e2;have HN1:=Hh (show ks[j+1].1=ks[j+1].1 from rfl);by_cases hx:ks[j].1<ks[j+1].1
   ·obtain⟨q1,q2⟩:=dN hx;have HX:=Hh hx;clear hx HN1;go_wp2_with fail;go_quiet (fail);go_wp2;go_roundw
    case rel =>
     refine⟨Below.drewN HBr.o _,j+1,Nat.le_of_lt hlt,by go_num,Hh ?_⟩;intro i h1 h2
     rcases zu i j with h3 | h3
     ·exact HP.o i h1 h3
     ·obtain rfl:i=j:=by omega
      exact HX.o
    case measure=>simp[intOf];omega
   ·have HF:=Hh (show r=10 by
     rw[HR.o,zM1]
     rw[Bool.eq_false_iff]
     intro h
     have:=Stl.risesB_at _ j h (by simpa using hlt)
     simp only[List.getElem_map] at this
     exact hx this)
    have g10:=(((HE.o.later HB4.o)).at_ 10 (by omega) (by omega)).1;unfold wA at g10;by_cases hne:ks[j+1].1=ks[j].1
    ·have q1:(ks[j+1].1==ks[j].1)=true:=by rw[beq_iff_eq];exact hne
     clear hx hne HN1;go_wp2_with fail;go_quiet (fail);go_wp2;go_ret;exact⟨by rw[HF.o];rfl,Below.drewN HB4.o _⟩
    ·obtain⟨q1,q2⟩:=qD5 hx hne;clear hx hne HN1;go_wp2_with fail;go_quiet (fail);go_wp2;go_ret;exact⟨by rw[HF.o];rfl,Below.drewN HB4.o _⟩
  ·have i1:¬ ((j+1:Nat):Int)<(ks.length:Int):=by omega
   have i2:¬ (j:Int)+1<(ks.length:Int):=by omega
   have HF:=Hh (show r=0 by
    rw[HR.o,zL1]
    rw[Bool.not_eq_false]
    refine Stl.risesB_of _ fun i hi=>?_
    simp only[List.getElem_map]
    simp only[zT] at hi
    exact HP.o i hi (by omega))
   go_wp2;go_ret;exact⟨by rw[HF.o];rfl,HB4.o⟩
theorem qOc (k d:List UInt8)(e:Bool)(A:Option Addr)(c:Nat)(ks:List (List UInt8×Stl.Nd))(hc:ks.length≤c)(hc2:ks.length≤140737488355328)(hd:d.length≤140737488355328)(w:World)(p:Nat→Addr)(hE:Errs w p)(hk:KidsOf w A ks)
  (h0:k=Stl.kFile∨k=Stl.kDir∨k=Stl.kLink) (hkl:¬ k=Stl.kLink) (h1:(k==[102,105,108,101])=false) (h2:(k==[100,105,114])=true) (h3:(k==[108,105,110,107])=false) :
  Calls Tryz.prog 203 #[.agg #[.string ⟨k.toArray⟩,.string ⟨d.toArray⟩,.bool e,.slice A ks.length c]] w (dO p w (Stl.ownErrP k d e (ks.map (·.1)))):=by
 have HE:=Hh hE;have HK:=Hh hk;clear hE hk;have HR:=Hh (Stl.own_rest k d e (ks.map (·.1)) h0);rw[zT] at HR;generalize Stl.ownErrP k d e (ks.map (·.1))=r at HR;have HKL:=Hh hkl;clear h0 hkl;go_enter Tryz.func203,Tryz.ntmps203;go_wp2_with fail;refine(qCk k d e _ ks.length c (by omega) _).mono ?_;rintro ev w1 ⟨rfl,hb⟩;have HB1:=Hh ((Below.alloc (zB _ w) (zo _) _).trans (hb.mono (by simp)));have HX1:=Hh ((hb.block _ (by simp)).trans (zK1 _ _));clear hb;by_cases hsh:Stl.shapeB k d e ks.length=false
 ·have HF:=Hh (show r=3 by rw[HR.o,zM1 hsh]);rw[hsh];have g3:=((HE.o.later HB1.o).at_ 3 (by omega) (by omega)).1;unfold wA at g3;clear hsh;go_wp2;go_ret;exact⟨by rw[HF.o];rfl,HB1.o⟩
 have hr:=HR.o;rw[zL1 hsh] at hr;simp only[Bool.not_eq_false] at hsh;rw[hsh];clear HR hsh;have HR:=Hh hr;clear hr;have c0:=ce0 HX1.o;have c1:=ce1 HX1.o;have c3:=ce3 HX1.o;by_cases hbd:2000<d.length
 ·have HF:=Hh (show r=2 by rw[HR.o,zM1 (.inl hbd)]);have i1:(2000:Int)<(d.length:Int):=by omega
  have g2:=((HE.o.later HB1.o).at_ 2 (by omega) (by omega)).1;unfold wA at g2;clear hbd;go_wp2;go_ret;exact⟨by rw[HF.o];rfl,HB1.o⟩
 have hr:=HR.o;rw[zL1 (by rintro (h | ⟨h,_⟩);exact hbd h;exact HKL.o h),zL1 (fun h=>HKL.o h.1)] at hr;clear HR;have HR:=Hh hr;have i1:(d.length:Int)≤2000:=by omega
 clear hr hbd;have c3:=ce3 HX1.o;go_wp2_with fail;refine(qAa A c ks hc hc2 _ (HK.o.later HB1.o)).mono ?_;rintro ev w3 ⟨rfl,hb⟩;have HB3:=Hh (HB1.o.trans (hb.mono HB1.o.size));have HX3:=Hh ((hb.block _ (zN1 HX1.o)).trans HX1.o);clear hb c3;by_cases hal:(ks.map (·.1)).all Stl.isName=false
 ·have HF:=Hh (show r=5 by rw[HR.o,zM1 hal]);rw[hal];have g5:=((HE.o.later HB3.o).at_ 5 (by omega) (by omega)).1;unfold wA at g5;clear hal;go_wp2;go_ret;exact⟨by rw[HF.o];rfl,HB3.o⟩
 have hr:=HR.o;rw[zL1 hal] at hr;simp only[Bool.not_eq_false] at hal;rw[hal];clear HR hal;have HR:=Hh hr;clear hr;go_wp2_with fail
 go_loopw [3] (fun a wr=>Below w3.heap.size w3 wr∧∃ j:Nat,j≤ks.length∧a=.int .i64 ((j+1:Nat):Int)∧Hg (∀ i (h:i+1<ks.length),i<j→ks[i].1<ks[i+1].1)) (fun a _=>ks.length+2-(intOf a).toNat)
 case atStart=>exact⟨zB _ _,0,by omega,rfl,Hh (fun i _ h=>by omega)⟩
 case round =>
  obtain⟨hb,j,hj,rfl,HP⟩:=hrel;have HB4:=Hh (HB3.o.trans (hb.mono HB3.o.size));have c3:=ce3 ((hb.block _ (zN1 HX3.o)).trans HX3.o);have HBr:=Hh hb;clear hb;by_cases hlt:j+1<ks.length
  ·have i1:((j+1:Nat):Int)<(ks.length:Int):=by omega
   have i2:(j:Int)+1<(ks.length:Int):=by omega
   have i3:(0:Int)≤(j:Int):=by omega
   have hj0:j<ks.length:=by omega
   obtain⟨b,off,rfl,hbl,⟨k1,hl1⟩,_⟩:=(HK.o.later HB4.o).at hlt;obtain⟨b',off',e',_,⟨k2,hl2⟩,_⟩:=(HK.o.later HB4.o).at hj0;injection e' with e'
   injection e' with e1 e2 e3
   subst e1 e2;have HN1:=Hh (show ks[j+1].1=ks[j+1].1 from rfl);by_cases hx:ks[j].1<ks[j+1].1
   ·obtain⟨q1,q2⟩:=dN hx;have HX:=Hh hx;clear hx HN1;go_wp2_with fail;go_quiet (fail);go_wp2;go_roundw
    case rel =>
     refine⟨Below.drewN HBr.o _,j+1,Nat.le_of_lt hlt,by go_num,Hh ?_⟩;intro i h1 h2
     rcases zu i j with h3 | h3
     ·exact HP.o i h1 h3
     ·obtain rfl:i=j:=by omega
      exact HX.o
    case measure=>simp[intOf];omega
   ·have HF:=Hh (show r=10 by
     rw[HR.o,zM1]
     rw[Bool.eq_false_iff]
     intro h
     have:=Stl.risesB_at _ j h (by simpa using hlt)
     simp only[List.getElem_map] at this
     exact hx this)
    have g10:=(((HE.o.later HB4.o)).at_ 10 (by omega) (by omega)).1;unfold wA at g10;by_cases hne:ks[j+1].1=ks[j].1
    ·have q1:(ks[j+1].1==ks[j].1)=true:=by rw[beq_iff_eq];exact hne
     clear hx hne HN1;go_wp2_with fail;go_quiet (fail);go_wp2;go_ret;exact⟨by rw[HF.o];rfl,Below.drewN HB4.o _⟩
    ·obtain⟨q1,q2⟩:=qD5 hx hne;clear hx hne HN1;go_wp2_with fail;go_quiet (fail);go_wp2;go_ret;exact⟨by rw[HF.o];rfl,Below.drewN HB4.o _⟩
  ·have i1:¬ ((j+1:Nat):Int)<(ks.length:Int):=by omega
   have i2:¬ (j:Int)+1<(ks.length:Int):=by omega
   have HF:=Hh (show r=0 by
    rw[HR.o,zL1]
    rw[Bool.not_eq_false]
    refine Stl.risesB_of _ fun i hi=>?_
    simp only[List.getElem_map]
    simp only[zT] at hi
    exact HP.o i hi (by omega))
   go_wp2;go_ret;exact⟨by rw[HF.o];rfl,HB4.o⟩
theorem qLn (k d:List UInt8)(e:Bool)(A:Option Addr)(c:Nat)(ks:List (List UInt8×Stl.Nd))(hc:ks.length≤c)(hc2:ks.length≤140737488355328)(hd:d.length≤140737488355328)(w:World)(p:Nat→Addr)(hE:Errs w p)(hk:KidsOf w A ks)
  (h0:k=Stl.kFile∨k=Stl.kDir∨k=Stl.kLink) (hkl:k=Stl.kLink) (h1:(k==[102,105,108,101])=false) (h2:(k==[100,105,114])=false) (h3:(k==[108,105,110,107])=true) :
  Calls Tryz.prog 203 #[.agg #[.string ⟨k.toArray⟩,.string ⟨d.toArray⟩,.bool e,.slice A ks.length c]] w (dO p w (Stl.ownErrP k d e (ks.map (·.1)))):=by
 have HE:=Hh hE;have HK:=Hh hk;clear hE hk;have HR:=Hh (Stl.own_rest k d e (ks.map (·.1)) h0);rw[zT] at HR;generalize Stl.ownErrP k d e (ks.map (·.1))=r at HR;have HKL:=Hh hkl;clear h0 hkl;go_enter Tryz.func203,Tryz.ntmps203;go_wp2_with fail;refine(qCk k d e _ ks.length c (by omega) _).mono ?_;rintro ev w1 ⟨rfl,hb⟩;have HB1:=Hh ((Below.alloc (zB _ w) (zo _) _).trans (hb.mono (by simp)));have HX1:=Hh ((hb.block _ (by simp)).trans (zK1 _ _));clear hb;by_cases hsh:Stl.shapeB k d e ks.length=false
 ·have HF:=Hh (show r=3 by rw[HR.o,zM1 hsh]);rw[hsh];have g3:=((HE.o.later HB1.o).at_ 3 (by omega) (by omega)).1;unfold wA at g3;clear hsh;go_wp2;go_ret;exact⟨by rw[HF.o];rfl,HB1.o⟩
 have hr:=HR.o;rw[zL1 hsh] at hr;simp only[Bool.not_eq_false] at hsh;rw[hsh];clear HR hsh;have HR:=Hh hr;clear hr;have c0:=ce0 HX1.o;have c1:=ce1 HX1.o;have c3:=ce3 HX1.o;by_cases hbd:2000<d.length
 ·have HF:=Hh (show r=2 by rw[HR.o,zM1 (.inl hbd)]);have i1:(2000:Int)<(d.length:Int):=by omega
  have g2:=((HE.o.later HB1.o).at_ 2 (by omega) (by omega)).1;unfold wA at g2;clear hbd;go_wp2;go_ret;exact⟨by rw[HF.o];rfl,HB1.o⟩
 have i1:(d.length:Int)≤2000:=by omega
 by_cases hd0:d=[]
 ·have HF:=Hh (show r=2 by rw[HR.o,zM1 (.inr ⟨HKL.o,.inl (by rw[hd0];decide)⟩)]);have g2:=((HE.o.later HB1.o).at_ 2 (by omega) (by omega)).1;unfold wA at g2;clear hbd;have e1:(d==[])=true:=by simpa using hd0
  have e2:d.isEmpty=true:=by simpa using hd0
  clear hd0;go_wp2;go_ret;exact⟨by rw[HF.o];rfl,HB1.o⟩
 have e1:(d==[])=false:=by simpa using hd0
 have e2:d.isEmpty=false:=by simpa using hd0
 by_cases hd4:40<d.length
 ·have HF:=Hh (show r=2 by rw[HR.o,zM1 (.inr ⟨HKL.o,.inr hd4⟩)]);have g2:=((HE.o.later HB1.o).at_ 2 (by omega) (by omega)).1;unfold wA at g2;have i2:(40:Int)<(d.length:Int):=by omega
  clear hbd hd0 hd4;go_wp2;go_ret;exact⟨by rw[HF.o];rfl,HB1.o⟩
 have i2:(d.length:Int)≤40:=by omega
 have hr:=HR.o;rw[zL1 (by rintro (h | ⟨_,h | h⟩);exact hbd h;exact hd0 (zR.1 (by omega));exact hd4 h)] at hr;clear HR;have HR:=Hh hr;clear hr hbd hd0 hd4;go_wp2_with fail;refine(qLf d _).mono ?_;rintro ev w2 ⟨rfl,hb⟩;have HB2:=Hh (HB1.o.trans (hb.mono HB1.o.size));have HX2:=Hh ((hb.block _ (zN1 HX1.o)).trans HX1.o);clear hb c0 c1 c3;by_cases hbb:d.any Stl.badByte=true
 ·have HF:=Hh (show r=1 by rw[HR.o,zM1 ⟨HKL.o,hbb⟩]);rw[hbb];have g1:=((HE.o.later HB2.o).at_ 1 (by omega) (by omega)).1;unfold wA at g1;clear hbb;go_wp2;go_ret;exact⟨by rw[HF.o];rfl,HB2.o⟩
 have hr:=HR.o;rw[zL1 (fun h=>hbb h.2)] at hr;simp only[Bool.not_eq_true] at hbb;rw[hbb];clear HR hbb;have HR:=Hh hr;clear hr;have c3:=ce3 HX2.o;go_wp2_with fail;refine(qAa A c ks hc hc2 _ (HK.o.later HB2.o)).mono ?_;rintro ev w3 ⟨rfl,hb⟩;have HB3:=Hh (HB2.o.trans (hb.mono HB2.o.size));have HX3:=Hh ((hb.block _ (zN1 HX2.o)).trans HX2.o);clear hb c3;by_cases hal:(ks.map (·.1)).all Stl.isName=false
 ·have HF:=Hh (show r=5 by rw[HR.o,zM1 hal]);rw[hal];have g5:=((HE.o.later HB3.o).at_ 5 (by omega) (by omega)).1;unfold wA at g5;clear hal;go_wp2;go_ret;exact⟨by rw[HF.o];rfl,HB3.o⟩
 have hr:=HR.o;rw[zL1 hal] at hr;simp only[Bool.not_eq_false] at hal;rw[hal];clear HR hal;have HR:=Hh hr;clear hr;go_wp2_with fail
 go_loopw [3] (fun a wr=>Below w3.heap.size w3 wr∧∃ j:Nat,j≤ks.length∧a=.int .i64 ((j+1:Nat):Int)∧Hg (∀ i (h:i+1<ks.length),i<j→ks[i].1<ks[i+1].1)) (fun a _=>ks.length+2-(intOf a).toNat)
 case atStart=>exact⟨zB _ _,0,by omega,rfl,Hh (fun i _ h=>by omega)⟩
 case round =>
  obtain⟨hb,j,hj,rfl,HP⟩:=hrel;have HB4:=Hh (HB3.o.trans (hb.mono HB3.o.size));have c3:=ce3 ((hb.block _ (zN1 HX3.o)).trans HX3.o);have HBr:=Hh hb;clear hb;by_cases hlt:j+1<ks.length
  ·have i1:((j+1:Nat):Int)<(ks.length:Int):=by omega
   have i2:(j:Int)+1<(ks.length:Int):=by omega
   have i3:(0:Int)≤(j:Int):=by omega
   have hj0:j<ks.length:=by omega
   obtain⟨b,off,rfl,hbl,⟨k1,hl1⟩,_⟩:=(HK.o.later HB4.o).at hlt;obtain⟨b',off',e',_,⟨k2,hl2⟩,_⟩:=(HK.o.later HB4.o).at hj0;injection e' with e'
   injection e' with e1 e2 e3
   subst e1 e2;have HN1:=Hh (show ks[j+1].1=ks[j+1].1 from rfl);by_cases hx:ks[j].1<ks[j+1].1
   ·obtain⟨q1,q2⟩:=dN hx;have HX:=Hh hx;clear hx HN1;go_wp2_with fail;go_quiet (fail);go_wp2;go_roundw
    case rel =>
     refine⟨Below.drewN HBr.o _,j+1,Nat.le_of_lt hlt,by go_num,Hh ?_⟩;intro i h1 h2
     rcases zu i j with h3 | h3
     ·exact HP.o i h1 h3
     ·obtain rfl:i=j:=by omega
      exact HX.o
    case measure=>simp[intOf];omega
   ·have HF:=Hh (show r=10 by
     rw[HR.o,zM1]
     rw[Bool.eq_false_iff]
     intro h
     have:=Stl.risesB_at _ j h (by simpa using hlt)
     simp only[List.getElem_map] at this
     exact hx this)
    have g10:=(((HE.o.later HB4.o)).at_ 10 (by omega) (by omega)).1;unfold wA at g10;by_cases hne:ks[j+1].1=ks[j].1
    ·have q1:(ks[j+1].1==ks[j].1)=true:=by rw[beq_iff_eq];exact hne
     clear hx hne HN1;go_wp2_with fail;go_quiet (fail);go_wp2;go_ret;exact⟨by rw[HF.o];rfl,Below.drewN HB4.o _⟩
    ·obtain⟨q1,q2⟩:=qD5 hx hne;clear hx hne HN1;go_wp2_with fail;go_quiet (fail);go_wp2;go_ret;exact⟨by rw[HF.o];rfl,Below.drewN HB4.o _⟩
  ·have i1:¬ ((j+1:Nat):Int)<(ks.length:Int):=by omega
   have i2:¬ (j:Int)+1<(ks.length:Int):=by omega
   have HF:=Hh (show r=0 by
    rw[HR.o,zL1]
    rw[Bool.not_eq_false]
    refine Stl.risesB_of _ fun i hi=>?_
    simp only[List.getElem_map]
    simp only[zT] at hi
    exact HP.o i hi (by omega))
   go_wp2;go_ret;exact⟨by rw[HF.o];rfl,HB4.o⟩
theorem qN8 (k d:List UInt8)(e:Bool)(A:Option Addr)(c:Nat)(ks:List (List UInt8×Stl.Nd))(hc:ks.length≤c)(hc2:ks.length≤140737488355328)(hd:d.length≤140737488355328)(w:World)(p:Nat→Addr)(hE:Errs w p)(hk:KidsOf w A ks) :
  Calls Tryz.prog 203 #[.agg #[.string ⟨k.toArray⟩,.string ⟨d.toArray⟩,.bool e,.slice A ks.length c]] w (dO p w (Stl.ownErrP k d e (ks.map (·.1)))):=by
 have fl:¬ Stl.kFile=Stl.kLink:=by decide
 have dl:¬ Stl.kDir=Stl.kLink:=by decide
 rcases Stl.kinds k with ⟨h0,h1,h2,h3⟩ | ⟨h0,h1,h2,h3⟩ | ⟨h0,h1,h2,h3⟩ | ⟨h0,h1,h2,h3⟩
 ·exact qLU k d e A c ks hc hc2 hd w p hE hk (.inl h0) (by rw[h0];exact fl) h1 h2 h3
 ·exact qOc k d e A c ks hc hc2 hd w p hE hk (.inr (.inl h0)) (by rw[h0];exact dl) h1 h2 h3
 ·exact qLn k d e A c ks hc hc2 hd w p hE hk (.inr (.inr h0)) h0 h1 h2 h3
 ·exact qKh k d e A c ks hc hc2 hd w p hE hk h0 h1 h2 h3
end Go.Proofs.YtbmkaekimccdgaaGreatDoor
