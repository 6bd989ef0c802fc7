/- Lemmas. -/
import Derived.Shelf.Lays2
import Derived.Shelf.Spec.SearchS
import Derived.Shelf.Spec.SlicesInsert
import Derived.Shelf.Spec.SlicesInsertGrow
import Derived.Sort.Walk0
import Derived.Test.YtbmkaekimccdgaaGreatDoorBm31
set_option maxHeartbeats 16000000
set_option maxRecDepth 1000000
set_option linter.all false
namespace Go.Proofs.YtbmkaekimccdgaaGreatDoor
open Go.RowKit Go.Sort Go.Shelf Stl
def pR (s:Sto)(line:List UInt8):Option (List UInt8) :=
 if line=[108,105,115,116] then some (qT (s.l.map (·.name)))
 else if line=[114,111,111,116,115] then some (qT s.roots)
 else if line=[102,114,101,101] then some (dec s.d.t.free.length)
 else if line=[115,97,118,101,100] then some (dec s.d.t.saved)
 else if line=[115,99,97,110] then some (qT (s.d.t.scan.map dec))
 else none
def qOs (w:World)(r:Option (List UInt8))(ev:Ending)(w':World):Prop :=
 ∃ (a:ByteArray) (is:Bool),ev=.returned (.tuple #[.string a,.bool is])∧Below w.heap.size w w' ∧
  match r with
  | none=>is=false
  | some x=>is=true∧a=⟨x.toArray⟩
theorem qJC {α:Type}(f:α→Nat)(m:Nat):∀ l:List α,(∀ x∈l,f x≤m)→(l.map f).sum≤l.length*m
 | [],_=>by simp
 | x::r,h=>by
  have h1:=qJC f m r (fun y hy=>h y (List.mem_cons_of_mem _ hy));have h2:=h x List.mem_cons_self;simp only[zV,List.sum_cons,zQ,Nat.add_mul];omega
theorem qJF {t:Tab}:t.all.length≤t.l.length:=by
 unfold Tab.all;have:=zS (fun n=>(t.at_ n).isSome) (List.range t.l.length);simpa using this
theorem qL4 {d:Stl.Dirs}(hd:DirsGood d):d.t.saved≤25200000000000000:=by
 rw[qG8];have h1:=qJC (kQ d.t) 25200000000 d.t.all (fun n hn=>by
  have h1:=pP.1 hn
  obtain⟨x,hx⟩:=zy.1 h1
  have h4:=pH hd.ok hx
  have h5:=hd.ents
  have h6:=hd.ok.tab.need n x hx
  have h7:=hd.ok.tab.bytes n x hx
  have h9:x.blocks.length≤126:=by rw[h6];unfold jL;omega
  unfold kQ
  rw[hx]
  simp only
  have:(x.links-1)*x.blocks.length≤200000000*126:=Nat.mul_le_mul (by omega) h9
  omega)
 have h2:=qJF (t:=d.t);have h3:=hd.inos;unfold kI;have:d.t.all.length*25200000000≤1000000*25200000000:=Nat.mul_le_mul (by omega) (zo _);omega
theorem qNJ {t:Tab}:t.free.length≤t.disk.length:=by
 unfold Tab.free;have:=zS (fun k=>!t.isUsed k) (List.range t.disk.length);simpa using this
theorem qNX {d:Stl.Dirs}(hd:DirsGood d):d.t.scan.length≤1000000∧∀ n∈d.t.scan,n≤1000000:=by
 have h3:=hd.inos;refine⟨?_,fun n hn=>?_⟩
 ·unfold Tab.scan;exact zq (zS _ _) (zq qJF h3)
 ·unfold Tab.scan at hn;have h1:=pP.1 (zZ.1 hn).1;obtain⟨x,hx⟩:=zy.1 h1;have:=nH hx;omega
theorem qOm (n:Nat)(h:n≤1000000):(dec n).length≤1000001:=by
 unfold dec;have:=kO (n+1) n;omega
section
variable {w:World}{A:Option Addr}{zs:List PkX}{c:Nat→Col}{b:Nat}{s:Sto}{bd:Nat}{cap:Nat}{R:Option Addr}{rc tp:Nat}{p:Nat→Addr}
theorem qJg (h:StoX w c b s bd A cap zs R rc tp)(hg:vB s)(hE:Env w c p)(line:List UInt8) :
  Calls Tryz.prog 78 #[.pointer (some ⟨b,0,none⟩),.string ⟨line.toArray⟩] w (qOs w (pR s line)):=by
 have hfew:=h.few hg.ok;have hE2:=hE;obtain⟨bt,bm,nd,fm,hdi⟩:=h.dirs;have HTB:=Hh (wS hdi);have HTA:=Hh hdi.tab;have H:=Hh h;have HG:=Hh hg;have HE:=Hh hE;obtain⟨res,hres⟩:∃ res,res=pR s line:=⟨_,rfl⟩;rw[← hres];unfold pR at hres;clear h hg hE hE2 hdi;go_enter Tryz.func78,Tryz.ntmps78;have c0:=ce0 H.o.own;have c2:=ce2 H.o.own
 cases h1:line==[108,105,115,116] with
 | true =>
  rw[zM1 (eq_of_beq h1)] at hres;have HRS:=Hh hres;have HNM:=Hh (qDA H.o (by omega));have HNE:=Hh (show s.l.map (·.name)=zs.map (·.p.name) by rw[← H.o.eq,zW];rfl);have HJL:=Hh (show (qT (zs.map (·.p.name))).length≤140737488355328 from by
   rw[← HNE.o]
   have h2:=kB 12 (s.l.map (·.name)) (fun x hx=>by
    obtain⟨q,hq,rfl⟩:=zb.1 hx
    exact vT (HG.o.ok.pks.well q hq))
   have h3:=HG.o.ok.pks.many
   rw[zT] at h2
   have h4:s.l.length*(12+1)≤40*13:=Nat.mul_le_mul h3 (zo _)
   omega)
  have hnl:(zs.map (·.p.name)).length≤1000:=by rw[zT];omega
  clear hres c0 c2;generalize zs.map (·.p.name)=ns at *;go_wp2_with (first
   | (go_at_call 121;refine HNM.o.mono ?_;rintro ev w1 ⟨A1,cap1,rfl,hr1,hb1⟩;have HR1:=Hh hr1;have HB1:=Hh hb1;have HJ:=Hh (yE (jS hr1) (yG hr1) (by omega) HJL.o);clear hr1 hb1)
   | (go_at_call 61;refine HJ.o.mono ?_;rintro ev w2 ⟨rfl,hb2⟩;have HB2:=Hh (HB1.o.trans (hb2.mono HB1.o.size));clear hb2)
   | fail)
  go_ret2;rw[HRS.o,HNE.o];exact⟨_,_,rfl,HB2.o,rfl,rfl⟩
 | false =>
  rw[zL1 (by simpa using h1)] at hres
  cases h2:line==[114,111,111,116,115] with
  | true =>
   rw[zM1 (eq_of_beq h2)] at hres;have HRS:=Hh hres;have hfn:=nZ HG.o.ok.pks HG.o.ok.rise HG.o.ok.roots;have HJ:=Hh (yE (jS H.o.roots.1) (yG H.o.roots.1) (by omega) (by omega));clear hres c0;go_wp2_with (go_at_call 61;refine HJ.o.mono ?_;rintro ev w2 ⟨rfl,hb2⟩;have HB2:=Hh hb2;clear hb2);go_ret2;rw[HRS.o];exact⟨_,_,rfl,HB2.o,rfl,rfl⟩
  | false =>
   rw[zL1 (by simpa using h2)] at hres;clear c2
   cases h3:line==[102,114,101,101] with
   | true =>
    rw[zM1 (eq_of_beq h3)] at hres;have HRS:=Hh hres;have HFR:=Hh (qCK HTA.o HG.o.good.disk);have hfl:=qNJ (t:=s.d.t);have hfd:=HG.o.good.disk;clear hres;go_wp2_with (first
     | (go_at_call 126;refine HTB.o.mono ?_;rintro ev wz ⟨rfl,rfl⟩)
     | (go_at_call 130;refine HFR.o.mono ?_;rintro ev w1 ⟨rfl,hb1⟩;have HB1:=Hh hb1;clear hb1)
     | (go_at_call 64;refine(xZ _ (by omega) _ (HE.o.below HB1.o).vars).mono ?_;rintro ev w2 ⟨rfl,hb2⟩;have HB2:=Hh (HB1.o.trans (hb2.mono HB1.o.size));clear hb2)
     | fail)
    go_ret2;rw[HRS.o];exact⟨_,_,rfl,HB2.o,rfl,rfl⟩
   | false =>
    rw[zL1 (by simpa using h3)] at hres
    cases h4:line==[115,97,118,101,100] with
    | true =>
     rw[zM1 (eq_of_beq h4)] at hres;have HRS:=Hh hres;have HSV:=Hh (qJT H.o.dirs HG.o.good);have hsl:=qL4 HG.o.good;clear hres;go_wp2_with (first
      | (go_at_call 131;refine HSV.o.mono ?_;rintro ev w1 ⟨rfl,hb1⟩;have HB1:=Hh hb1;clear hb1)
      | (go_at_call 64;refine(xZ _ (by omega) _ (HE.o.below HB1.o).vars).mono ?_;rintro ev w2 ⟨rfl,hb2⟩;have HB2:=Hh (HB1.o.trans (hb2.mono HB1.o.size));clear hb2)
      | fail)
     go_ret2;rw[HRS.o];exact⟨_,_,rfl,HB2.o,rfl,rfl⟩
    | false =>
     rw[zL1 (by simpa using h4)] at hres
     cases h5:line==[115,99,97,110] with
     | false =>
      rw[zL1 (by simpa using h5)] at hres;have HRS:=Hh hres;clear hres;go_wp2;go_ret2;rw[HRS.o];exact⟨_,_,rfl,zB _ _,rfl⟩
     | true =>
      rw[zM1 (eq_of_beq h5)] at hres;have HRS:=Hh hres;have HSC:=Hh (qL1 HTA.o HG.o.ok.dirs.tab HG.o.good.disk HG.o.good.inos HE.o.errs);have hsl:=qNX HG.o.good;have HSL:=Hh hsl.2;have hsl1:=hsl.1;generalize s.d.t.scan=sc at *;clear hres hsl;go_upto_region 13 with (first
       | (go_at_call 126;refine HTB.o.mono ?_;rintro ev wz ⟨rfl,rfl⟩)
       | (go_at_call 132;refine HSC.o.mono ?_;rintro ev w1 ⟨A1,cap1,rfl,hr1,hb1⟩;have HR1:=Hh hr1;have HB1:=Hh hb1;clear hr1 hb1)
       | fail)
      clear c0;obtain⟨i0,hi,hz0,hz1,hz2⟩:=pO;have Hi:=Hh hi;have Hz0:=Hh hz0;have Hz1:=Hh hz1;have Hz2:=Hh hz2;clear hi hz0 hz1 hz2
      go_loopw [6,48] (fun v a wr=>∃ (j:Nat),a=.int .i64 j∧j≤sc.length∧Hg (Below w1.heap.size w1 wr)∧Hg (wr.ownsRow w1.heap.size 9 1 v j (((sc.take j).map dec).map encStr))) (fun _ a _=>sc.length-(intOf a).toNat)
      case atStart=>exact⟨0,rfl,zw _,Hh (zB _ _),Hh (zF1 _ _ _ _)⟩
      case round =>
       obtain⟨j,rfl,hj,HB,HO⟩:=hrel;by_cases hjl:j<sc.length
       ·have i1:(j:Int)<(sc.length:Int):=by omega
        have i2:(0:Int)≤(j:Int):=by omega
        have hap:∃ g,A1=some ⟨g,0,none⟩∧g<w1.heap.size:=by
         rcases HR1.o.2 with ⟨_,h0⟩ | ⟨g,cp,cur,e,_,h6,_⟩
         ·omega
         ·simp only[zC1] at e;exact⟨g,e.1,qA h6⟩
        obtain⟨g,rfl,hgl⟩:=hap;have q0:wr.cell? ⟨g,j,none⟩=some (.int .i64 (sc[j]:Nat)):=by
         rw[HB.o.cell (p:=⟨g,j,none⟩) hgl,HR1.o.cellAt j (by omega),zN,zL hjl];rfl
        have HTK:=Hh (show ((sc.take (j+1)).map dec).map encStr=((sc.take j).map dec).map encStr++[.string ⟨(dec sc[j]).toArray⟩] by
         rw[zn hjl,zU,zU];rfl)
        have hnb:=HSL.o _ (zO hjl);generalize sc[j]=n at *;have HIT:=Hh (xZ n (by omega) wr (HE.o.below (HB1.o.trans (HB.o.mono HB1.o.size))).vars);go_upto_region 15 with fail;clear q0;go_wp2_with (first
         | (go_at_call 64;refine HIT.o.mono ?_;rintro ev w6 ⟨rfl,hb6⟩;have HB6:=Hh (HB.o.trans (hb6.mono HB.o.size));have HO6:=Hh ((qHS HO.o hb6).alloc (.cells #[.string ⟨(dec n).toArray⟩] 9));have HB7:=Hh (HB6.o.alloc HB6.o.size (.cells #[.string ⟨(dec n).toArray⟩] 9));clear hb6)
         | (at_builtin;refine Stl.wpList_app _ rfl _ _ 22 rfl w1.heap.size 9 i0 (.string ByteArray.empty) 1 16 Tryz.underlying22 Hi.o Hz0.o Hz1.o Hz2.o rfl (by decide) u6 j _ rfl HO6.o (some ⟨w6.heap.size,0,none⟩) 1 1 [.string ⟨(dec n).toArray⟩] rfl rfl (fun h=>by cases h) (jD _ _ _) (by simp[Value.oneCell']) (by unfold maxLen;omega) (by omega) (zq HB6.o.size (by simp)) ?_;intro A7 c7 w7 hown7 hgr7 hat7;have HO8:=Hh hown7;have HB8:=Hh (HB7.o.grown hgr7 HB7.o.size (fun k hk=>(HO6.o.lt k hk).1));clear hown7 hgr7 hat7)
         | fail)
        go_roundw
        case rel=>exact⟨j+1,by go_num,hjl,HB8,Hh (by rw[HTK.o];exact HO8.o)⟩
        case measure=>simp[intOf];omega
       ·have i1:¬ (j:Int)<(sc.length:Int):=by omega
        obtain rfl:j=sc.length:=by omega
        obtain⟨A3,c3,e3⟩:=Stl.owns_slice _ HO.o;subst e3;have ho:=HO.o;rw[zk] at ho;have HJ:=Hh (show Calls Tryz.prog 61 #[.slice A3 sc.length c3] wr _ from by
         have h1:=yE (w:=wr) (A:=A3) (cap:=c3) (l:=sc.map dec) (by have:=vF ho;rwa [zT]) (by rw[zT];exact yG ho) (by rw[zT];omega) (by
          have:=kB 1000001 (sc.map dec) (fun x hx=>by obtain⟨q,hq,rfl⟩:=zb.1 hx;exact qOm q (HSL.o q hq))
          rw[zT] at this
          have h2:sc.length*(1000001+1)≤1000000*1000002:=Nat.mul_le_mul hsl1 (zo _)
          omega)
         rw[zT] at h1
         exact h1)
        clear ho;go_wp2_with (go_at_call 61;refine HJ.o.mono ?_;rintro ev w9 ⟨rfl,hb9⟩;have HB9:=Hh (HB1.o.trans ((HB.o.trans (hb9.mono HB.o.size)).mono HB1.o.size));clear hb9);go_ret2;rw[HRS.o];exact⟨_,_,rfl,HB9.o,rfl,rfl⟩
end
theorem qNs (s:Sto)(line:List UInt8):s.tell line=match pR s line with
  | some x=>.ok x
  | none=>match cutAt 32 line with
   | none=>.error 1
   | some (word,rest) =>
    if word=[114,101,97,100] then s.read rest
    else if word=[114,101,102,115]∨word=[117,115,101,114,115]∨word=[110,101,101,100] then dR s word rest
    else if word=[119,104,101,114,101] then uG s rest
    else .error 1:=by
 unfold Sto.tell pR;by_cases h1:line=[108,105,115,116]
 ·rw[zM1 h1,zM1 h1]
 rw[zL1 h1,zL1 h1];by_cases h2:line=[114,111,111,116,115]
 ·rw[zM1 h2,zM1 h2]
 rw[zL1 h2,zL1 h2];by_cases h3:line=[102,114,101,101]
 ·rw[zM1 h3,zM1 h3]
 rw[zL1 h3,zL1 h3];by_cases h4:line=[115,97,118,101,100]
 ·rw[zM1 h4,zM1 h4]
 rw[zL1 h4,zL1 h4];by_cases h5:line=[115,99,97,110]
 ·rw[zM1 h5,zM1 h5]
 rw[zL1 h5,zL1 h5]
 cases cutAt 32 line with
 | none=>rfl
 | some q =>
  obtain⟨word,rest⟩:=q;simp only;by_cases g1:word=[114,101,97,100]
  ·rw[zM1 g1,zM1 g1]
  rw[zL1 g1,zL1 g1];unfold dR uG;by_cases g2:word=[114,101,102,115]
  ·refine(zM1 g2).trans (Eq.trans ?_ (zM1 (.inl g2)).symm)
   cases s.find rest with
   | none=>rfl
   | some p=>simp only;rw[zM1 g2]
  refine(zL1 g2).trans ?_;by_cases g3:word=[117,115,101,114,115]
  ·refine(zM1 g3).trans (Eq.trans ?_ (zM1 (.inr (.inl g3))).symm)
   cases s.find rest with
   | none=>rfl
   | some p=>simp only;rw[zL1 g2,zM1 g3];rfl
  refine(zL1 g3).trans ?_;by_cases g4:word=[110,101,101,100]
  ·refine(zM1 g4).trans (Eq.trans ?_ (zM1 (.inr (.inr g4))).symm)
   cases s.find rest with
   | none=>rfl
   | some p=>simp only;rw[zL1 g2,zL1 g3];rfl
  refine(zL1 g4).trans (Eq.trans ?_ (zL1 (fun h=>h.elim g2 fun h=>h.elim g3 g4)).symm);by_cases g5:word=[119,104,101,114,101]
  ·rw[zM1 g5,zM1 g5];cases qI rest 6<;>rfl
  ·rw[zL1 g5,zL1 g5]
section
variable {w:World}{A:Option Addr}{zs:List PkX}{c:Nat→Col}{b:Nat}{s:Sto}{bd:Nat}{cap:Nat}{R:Option Addr}{rc tp:Nat}{p:Nat→Addr}
theorem TlPost.lay {w1:World}{r:Except Nat (List UInt8)}{ev:Ending}{w':World}(hb:Below w.heap.size w w1)(h:TlPost p w1 r ev w') :
  ∃ (a:ByteArray) (er:Value),ev=.returned (.tuple #[.string a,er])∧TlPost p w r (.returned (.tuple #[.string a,er])) w':=by
 obtain⟨a,er,rfl,he,hm⟩:=h;exact⟨a,er,rfl,a,er,rfl,hb.trans (he.mono hb.size),hm⟩
theorem qMm (h:StoX w c b s bd A cap zs R rc tp)(hg:vB s)(hE:Env w c p)(line:List UInt8)(hr:line.length≤1000000) :
  Calls Tryz.prog 37 #[.pointer (some ⟨b,0,none⟩),.string ⟨line.toArray⟩] w (TlPost p w (s.tell line)):=by
 have H:=Hh h;have HG:=Hh hg;have HE:=Hh hE;have HPL:=Hh (qJg h hg hE line);obtain⟨res,hres⟩:∃ res,res=s.tell line:=⟨_,rfl⟩;rw[← hres];rw[qNs] at hres;obtain⟨pl,hpl⟩:∃ pl,pl=pR s line:=⟨_,rfl⟩;rw[← hpl] at HPL hres;clear h hg hE hpl;go_enter Tryz.func37,Tryz.ntmps37
 cases pl with
 | some x =>
  go_upto_region 3 with (go_at_call 78;refine HPL.o.mono ?_;rintro ev w1 ⟨a1,is1,rfl,hb1,rfl,rfl⟩;have HB1:=Hh hb1;clear hb1);go_wp2;go_ret2;rw[hres];exact⟨_,_,rfl,HB1.o,rfl,rfl⟩
 | none =>
  go_upto_region 4 with (go_at_call 78;refine HPL.o.mono ?_;rintro ev w1 ⟨a1,is1,rfl,hb1,rfl⟩;have HB1:=Hh hb1;clear hb1);have HE1:=Hh (HE.o.below HB1.o)
  cases hc:cutAt 32 line with
  | none =>
   rw[hc] at hres;have HRS:=Hh (show res=.error 1 from hres);have HCUT:=Hh (pS 32 hc (by omega) w1 HE1.o.max);clear hc hres;go_upto_region 12 with (go_at_call 72;refine HCUT.o.mono ?_;rintro ev w2 ⟨rfl,hb2⟩;have HB2:=Hh (HB1.o.trans (hb2.mono HB1.o.size));clear hb2);have hg:w2.cell? ⟨1,0,none⟩=some (.iface 376 (.pointer (some (p 1)))):=((HE.o.errs.later HB2.o).cell 1 (by decide) (by decide)).trans (by rw[qD p (by decide)]);go_quiet (fail);go_wp2;go_ret2;rw[HRS.o];exact⟨_,_,rfl,Below.drewN HB2.o _,by rw[qD p (by decide)];rfl,by decide⟩
  | some q =>
   obtain⟨word,rest⟩:=q;rw[hc] at hres;simp only at hres;have hnl:=nC 32 hc;have HCUT:=Hh (gU 32 hc (by omega) w1 HE1.o.max);clear hc;go_upto_region 5 with (go_at_call 72;refine HCUT.o.mono ?_;rintro ev w2 ⟨rfl,hb2⟩;have HB2:=Hh (HB1.o.trans (hb2.mono HB1.o.size));clear hb2);have HX2:=Hh (H.o.below HB2.o);have HE2:=Hh (HE.o.below HB2.o)
   cases g1:word==[114,101,97,100] with
   | true =>
    rw[zM1 (eq_of_beq g1)] at hres;have HRS:=Hh hres;have HC:=Hh (qJ7 HX2.o HG.o HE2.o rest (by omega));clear hres;go_wp2_with (go_at_call 79;refine HC.o.mono ?_;intro ev w3 hp;obtain⟨a,er,rfl,hq⟩:=hp.lay HB2.o;have HP:=Hh hq;clear hp hq);go_ret2;rw[HRS.o];exact HP.o
   | false =>
    rw[zL1 (by simpa using g1)] at hres;have HC:=Hh (qMw HX2.o HG.o HE2.o word rest)
    cases g2:word==[114,101,102,115] with
    | true =>
     rw[zM1 (.inl (eq_of_beq g2))] at hres;have HRS:=Hh hres;clear hres;go_wp2_with (go_at_call 80;refine HC.o.mono ?_;intro ev w3 hp;obtain⟨a,er,rfl,hq⟩:=hp.lay HB2.o;have HP:=Hh hq;clear hp hq);go_ret2;rw[HRS.o];exact HP.o
    | false =>
     cases g3:word==[117,115,101,114,115] with
     | true =>
      rw[zM1 (.inr (.inl (eq_of_beq g3)))] at hres;have HRS:=Hh hres;clear hres;go_wp2_with (go_at_call 80;refine HC.o.mono ?_;intro ev w3 hp;obtain⟨a,er,rfl,hq⟩:=hp.lay HB2.o;have HP:=Hh hq;clear hp hq);go_ret2;rw[HRS.o];exact HP.o
     | false =>
      cases g4:word==[110,101,101,100] with
      | true =>
       rw[zM1 (.inr (.inr (eq_of_beq g4)))] at hres;have HRS:=Hh hres;clear hres;go_wp2_with (go_at_call 80;refine HC.o.mono ?_;intro ev w3 hp;obtain⟨a,er,rfl,hq⟩:=hp.lay HB2.o;have HP:=Hh hq;clear hp hq);go_ret2;rw[HRS.o];exact HP.o
      | false =>
       rw[zL1 (by rintro (h | h | h)<;>(rw[h] at g2 g3 g4;first | (exact absurd g2 (by decide)) | (exact absurd g3 (by decide)) | (exact absurd g4 (by decide))))] at hres
       cases g5:word==[119,104,101,114,101] with
       | true =>
        rw[zM1 (eq_of_beq g5)] at hres;have HRS:=Hh hres;have HC2:=Hh (qJD HX2.o HG.o HE2.o rest (by omega));clear hres;go_wp2_with (go_at_call 81;refine HC2.o.mono ?_;intro ev w3 hp;obtain⟨a,er,rfl,hq⟩:=hp.lay HB2.o;have HP:=Hh hq;clear hp hq);go_ret2;rw[HRS.o];exact HP.o
       | false =>
        rw[zL1 (by simpa using g5)] at hres;have HRS:=Hh hres;clear hres;go_upto_region 12 with fail;have hg:w2.cell? ⟨1,0,none⟩=some (.iface 376 (.pointer (some (p 1)))):=((HE.o.errs.later HB2.o).cell 1 (by decide) (by decide)).trans (by rw[qD p (by decide)]);go_quiet (fail);go_wp2;go_ret2;rw[HRS.o];exact⟨_,_,rfl,Below.drewN HB2.o _,by rw[qD p (by decide)];rfl,by decide⟩
end
end Go.Proofs.YtbmkaekimccdgaaGreatDoor
namespace Go.Proofs
open Go.Shelf
def Tryz.searchS_ren:Go.Shelf.Ren:=⟨fun | 26=>123 | 33=>178 | 34=>179 | 38=>241 | n=>n,fun | 24=>22 | 9=>9 | 3=>3 | 4=>4 | 40=>112 | 0=>0 | n=>n,fun | n=>n⟩
theorem Tryz.searchS:Go.Proofs.Lays2.n26 Tryz.prog Tryz.searchS_ren:={
 mixed:=by kernel_rfl
 f26:=Tryz.func123.trans (congrArg some (by kernel_rfl))
 f33:=Tryz.func178.trans (congrArg some (by kernel_rfl))
 f34:=Tryz.func179.trans (congrArg some (by kernel_rfl))
 f38:=Tryz.func241.trans (congrArg some (by kernel_rfl))
 t0:=Tryz.underlying0
 a0:=Tryz.isAgg0
 z0:=Tryz.sizeOf0
 v0:=Tryz.zeroValue0
 t3:=Tryz.underlying3
 a3:=Tryz.isAgg3
 z3:=Tryz.sizeOf3
 v3:=Tryz.zeroValue3
 t4:=Tryz.underlying4
 a4:=Tryz.isAgg4
 z4:=Tryz.sizeOf4
 v4:=Tryz.zeroValue4
 t9:=Tryz.underlying9
 a9:=Tryz.isAgg9
 z9:=Tryz.sizeOf9
 v9:=Tryz.zeroValue9
 t24:=Tryz.underlying22
 a24:=Tryz.isAgg22
 z24:=Tryz.sizeOf22
 v24:=Tryz.zeroValue22
 t40:=Tryz.underlying112
 a40:=Tryz.isAgg112
 z40:=Tryz.sizeOf112
 v40:=Tryz.zeroValue112 }
def Tryz.insertS_ren:Go.Shelf.Ren:=⟨fun | 22=>124 | 29=>180 | 30=>181 | 36=>242 | 17=>288 | n=>n,fun | 24=>22 | 9=>9 | 3=>3 | 4=>4 | 0=>0 | n=>n,fun | n=>n⟩
theorem Tryz.insertS:Go.Proofs.Lays2.n22 Tryz.prog Tryz.insertS_ren:={
 mixed:=by kernel_rfl
 f17:=Tryz.func288.trans (congrArg some (by kernel_rfl))
 f22:=Tryz.func124.trans (congrArg some (by kernel_rfl))
 f29:=Tryz.func180.trans (congrArg some (by kernel_rfl))
 f30:=Tryz.func181.trans (congrArg some (by kernel_rfl))
 f36:=Tryz.func242.trans (congrArg some (by kernel_rfl))
 t0:=Tryz.underlying0
 a0:=Tryz.isAgg0
 z0:=Tryz.sizeOf0
 v0:=Tryz.zeroValue0
 t3:=Tryz.underlying3
 a3:=Tryz.isAgg3
 z3:=Tryz.sizeOf3
 v3:=Tryz.zeroValue3
 t4:=Tryz.underlying4
 a4:=Tryz.isAgg4
 z4:=Tryz.sizeOf4
 v4:=Tryz.zeroValue4
 t9:=Tryz.underlying9
 a9:=Tryz.isAgg9
 z9:=Tryz.sizeOf9
 v9:=Tryz.zeroValue9
 t24:=Tryz.underlying22
 a24:=Tryz.isAgg22
 z24:=Tryz.sizeOf22
 v24:=Tryz.zeroValue22
 i9:=by kernel_rfl }
end Go.Proofs
namespace Go.Proofs.YtbmkaekimccdgaaGreatDoor
open Go.RowKit Go.Sort Go.Shelf Stl
theorem qDD {w:World}{A:Option Addr}{cap:Nat}{l:List (List UInt8)}(h:Strs w (.slice A l.length cap) l)(hr:Rise l)(hl:l.length≤1000000)(s:List UInt8) :
  Calls Tryz.prog 123 #[.slice A l.length cap,.string ⟨s.toArray⟩] w fun e w'=>e=.returned (.tuple #[.int .i64 (place s l:Nat),.bool (decide (s∈l))])∧Below w.heap.size w w':=by
 by_cases hn:l=[]
 ·subst hn;refine(Any2.slices_BinarySearch_string_empty Tryz.searchS A cap ⟨s.toArray⟩ w).mono ?_;rintro e w' ⟨rfl,rfl⟩;exact⟨rfl,zB _ _⟩
 ·obtain⟨A2,c2,e,h1⟩:=h;injection e with e1 e2 e3
  subst e1 e3;obtain⟨b,off,rfl,hb,hc⟩:=h1 hn;have hs:=Any2.slices_BinarySearch_string Tryz.searchS b off l.length cap (fun t=>⟨(l[t]?.getD s).toArray⟩) ⟨s.toArray⟩ w (by omega) (fun j hj=>by
   have:=hc j l[j] (zL hj)
   rw[this]
   simp[hj])
  have hless:Lib.bsGo (fun t=>Op.bytesLess (⟨(l[t]?.getD s).toArray⟩:ByteArray).toList (⟨s.toArray⟩:ByteArray).toList) l.length 0 l.length=place s l:=by
   refine Lib.bsGo_spec _ (place s l) (fun t ht=>?_) (fun t ht=>?_) l.length 0 l.length (by omega) (zw _) (qD1 s l)
   ·obtain⟨x,hx,hlt⟩:=qFZ s l t ht;simp only[hx,zx];rw[bytesLess_eq];simpa using hlt
   ·rw[bytesLess_eq]
    cases hx:l[t]? with
    | none=>simp
    | some x =>
     have:=qDJ s l hr t x ht hx;simpa using this
  rw[hless] at hs;have hfd:decide (place s l<l.length∧(⟨(l[place s l]?.getD s).toArray⟩:ByteArray)=⟨s.toArray⟩)=decide (s∈l):=by
   apply decide_eq_decide.2;rw[qDX s l hr];constructor
   ·rintro ⟨h1,h2⟩;have h3:(l[place s l]?.getD s).toArray=s.toArray:=by injection h2
    rw[zL h1] at h3 ⊢;simp only[zx] at h3;have h4:=congrArg Array.toList h3;simp only at h4;rw[h4]
   ·intro h2;exact⟨(zM.1 h2).1,by rw[h2];rfl⟩
  rw[hfd] at hs;refine hs.mono ?_;rintro e w' ⟨rfl,q,rfl⟩;exact⟨rfl,Below.drewN (zB _ w) q⟩
theorem qH8 {w:World}{base:Nat}{e:TypeId}{size g n cap:Nat}{xs:List Value}(h:w.ownsRow base e size (.slice (some ⟨g,0,none⟩) n cap) n xs):∃ ys,w.ownsRow base e size (.slice (some ⟨g,0,none⟩) cap cap) cap ys∧ys.take (n*size)=xs∧n≤cap∧cap≤maxLen∧g<w.heap.size:=by
 rcases h.2 with ⟨e1,_⟩ | ⟨g',cp,cur,e1,h2,h3,h4,h5,h6,h7⟩
 ·cases e1
 ·injection e1 with a1 a2 a3
  injection a1 with a1
  injection a1 with a1 _ _
  subst a1 a3;refine⟨cur.toList,⟨by rw[Array.length_toList];exact h6,.inr ⟨g,cap,cur,rfl,h2,h3,zo _,h5,h6,by rw[← h6,← Array.length_toList,zk]⟩⟩,h7,h4,h5,qA h3⟩
theorem qHa {w:World}{base:Nat}{e:TypeId}{cur:Array Value}(hb:base≤w.heap.size)(hm:cur.size≤maxLen):(w.alloc (.cells cur e)).ownsRow base e 1 (.slice (some ⟨w.heap.size,0,none⟩) cur.size cur.size) cur.size cur.toList :=
 ⟨by simp,.inr ⟨w.heap.size,cur.size,cur,rfl,hb,zK1 w _,zo _,hm,by simp,by rw[Nat.mul_one,← Array.length_toList,zk]⟩⟩
theorem nQ {w:World}{A:Option Addr}{cap:Nat}{l:List (List UInt8)}{base:Nat}(h:w.ownsRow base 9 1 (.slice A l.length cap) l.length (l.map encStr)):(A=none∧l=[]∧cap=0)∨∃ g,A=some ⟨g,0,none⟩:=by
 rcases h.2 with ⟨e1,h0⟩ | ⟨g,cp,cur,e1,_⟩
 ·injection e1 with e1 e2 e3
  exact .inl ⟨e1,zR.1 h0,e3⟩
 ·injection e1 with e1 _ _
  exact .inr ⟨g,e1⟩
def qNH (w:World)(base:Nat)(A:Option Addr)(l':List (List UInt8))(e:Ending)(w':World):Prop :=
 ∃ (A':Option Addr) (cap':Nat) (row:Option Nat),e=.returned (.slice A' l'.length cap')∧w'.ownsRow base 9 1 (.slice A' l'.length cap') l'.length (l'.map encStr)∧w.grownBy w' row∧(∀ k,row=some k→A=some ⟨k,0,none⟩)∧(A'=A∨∃ g,A'=some ⟨g,0,none⟩∧w.heap.size≤g)
theorem qGU {w w1 w2:World}{row:Option Nat}(h:w.grownBy w1 row)(k:w1.grownBy w2 row):w.grownBy w2 row :=
 ⟨k.os.trans h.os,k.tape.trans h.tape,k.output.trans h.output,zq h.size k.size,fun i hi hne=>(k.block i (zt hi h.size) hne).trans (h.block i hi hne)⟩
theorem qIs {w:World}{base:Nat}{A:Option Addr}{cap:Nat}{l:List (List UInt8)}(h:w.ownsRow base 9 1 (.slice A l.length cap) l.length (l.map encStr))(hb:base≤w.heap.size)(hl:l.length≤1000000)(k:Nat)(hk:k≤l.length)(s:List UInt8)(vb:Nat)(hv:w.heap[vb]?=some (.cells #[.string ⟨s.toArray⟩] 9 (0,0)))(hva:∀ g,A=some ⟨g,0,none⟩→vb≠g) :
  Calls Tryz.prog 124 #[.slice A l.length cap,.int .i64 k,.slice (some ⟨vb,0,none⟩) 1 1] w (qNH w base A (l.take k++s::l.drop k)):=by
 have hlen:(l.take k++s::l.drop k).length=l.length+1:=by simp;omega
 have hvs:∀ j v,[Value.string ⟨s.toArray⟩][j]?=some v→w.cell? ⟨vb,0+j,none⟩=some v:=fun j v hj=>by
  have hj0:j=0:=by have:=(zM.1 hj).1;simpa using this
  subst hj0;have:v=.string ⟨s.toArray⟩:=by simpa using hj.symm
  rw[this];exact zJ1 w vb 0 _ _ _ hv
 have h1v:∀ v∈[Value.string ⟨s.toArray⟩],v.oneCell'=true:=fun v hv=>by rw[zg.1 hv];rfl
 have h1c:∀ v∈l.map encStr,v.oneCell'=true:=mB l;have hncap:=yG h;by_cases hroom:l.length+1≤cap
 ·rcases nQ h with ⟨rfl,rfl,rfl⟩ | ⟨g,rfl⟩
  ·simp at hroom
  ·obtain⟨ys,hw,hys,_,hcm,hgl⟩:=qH8 h;rw[Nat.mul_one] at hys;have hyl:ys.length=cap:=by have:=hw.1;omega
   have hcs:∀ j v,(l.map encStr)[j]?=some v→w.cell? ⟨g,0+j,none⟩=some v:=fun j v hj=>by
    have hjl:=(zM.1 hj).1;rw[zT] at hjl;rw[zv,h.cellAt j (by omega)];exact hj
   have hsp:∀ j,j<cap→(w.cell? ⟨g,j,none⟩).isSome=true:=fun j hj=>by
    rw[hw.cellAt j (by omega),zL (by omega)];rfl
   unfold maxLen at hcm;by_cases hki:k<l.length
   ·have hsa:w.shape? vb=some (9,1):=by unfold World.shape?;rw[hv];rfl
    obtain⟨cur,hg,hcur⟩:∃ cur,w.heap[g]?=some (.cells cur 9 (0,0))∧cur.size=cap:=by
     rcases h.2 with ⟨e1,_⟩ | ⟨g',cp,cur,e1,h2,h3,h4,h5,h6,h7⟩
     ·cases e1
     ·injection e1 with a1 a2 a3
      injection a1 with a1
      injection a1 with a1 _ _
      subst a1 a3;exact⟨cur,h3,by omega⟩
    have hsb:w.shape? g=some (9,cap):=by unfold World.shape?;rw[hg,← hcur]
    refine(Any2.slices_Insert_string_shift Tryz.insertS g 0 l.length cap k vb 0 1 1 (l.map encStr) [.string ⟨s.toArray⟩] w hki (by omega) hroom (by omega) (hva g rfl) (by simp) rfl hcs (fun j hj=>by rw[zv];exact hsp j (by omega)) (fun j _=>h.frozenAt _) hvs h1c h1v _ _ 1 cap hsa hsb (by omega) (qC hv 0) (qC hv 1)).mono ?_;rintro e w' ⟨rfl,rfl⟩;obtain⟨a1,a2⟩:=vK (w:=w.drew) hw ((l.map encStr).drop k) (0+(k+1)) (by rw[hyl];simp;omega);obtain⟨b1,b2⟩:=vK a1 [.string ⟨s.toArray⟩] (0+k) (by rw[a1.1];simp;omega);have c1:=kS b1 (m:=l.length+1) (by omega);refine⟨_,cap,some g,by rw[hlen],?_,⟨b2.os.trans a2.os,b2.tape.trans a2.tape,b2.output.trans a2.output,zq a2.size b2.size,fun i hi hne=>(b2.block i (zt hi a2.size) hne).trans (a2.block i hi hne)⟩,fun k hk=>by injection hk with hk;rw[hk],.inl rfl⟩;rw[hlen];have:((ys.take (0+(k+1))++(l.map encStr).drop k++ys.drop (0+(k+1)+((l.map encStr).drop k).length)).take (0+k)++[Value.string ⟨s.toArray⟩]++(ys.take (0+(k+1))++(l.map encStr).drop k++ys.drop (0+(k+1)+((l.map encStr).drop k).length)).drop (0+k+[Value.string ⟨s.toArray⟩].length)).take ((l.length+1)*1)=(l.take k++s::l.drop k).map encStr:=by
     have hy1:ys.take k=(l.map encStr).take k:=by rw[← hys,List.take_take,Nat.min_eq_left hk]
     have e1:(ys.take (0+(k+1))).length=k+1:=by rw[List.length_take];omega
     have e2:((l.map encStr).drop k).length=l.length-k:=by simp
     have t1:(ys.take (0+(k+1))++(l.map encStr).drop k++ys.drop (0+(k+1)+((l.map encStr).drop k).length)).take (0+k)=(l.map encStr).take k:=by
      rw[List.append_assoc,zj (by omega),List.take_take,Nat.min_eq_left (by omega),zv,hy1]
     have t2:(ys.take (0+(k+1))++(l.map encStr).drop k++ys.drop (0+(k+1)+((l.map encStr).drop k).length)).drop (0+k+[Value.string ⟨s.toArray⟩].length)=(l.map encStr).drop k++ys.drop (0+(k+1)+((l.map encStr).drop k).length):=by
      rw[List.append_assoc,show 0+k+[Value.string ⟨s.toArray⟩].length=(ys.take (0+(k+1))).length by rw[e1];simp,List.drop_left]
     rw[t1,t2,← List.append_assoc,zj (by simp;omega),zm (by simp;omega)];simp[encStr,List.map_take,List.map_drop]
    rw[← this];exact c1
   ·obtain rfl:k=l.length:=by omega
    refine(Any2.slices_Insert_string_end_room Tryz.insertS g 0 l.length cap vb 0 1 1 [.string ⟨s.toArray⟩] w (by omega) hroom (by omega) rfl (fun j hj=>by rw[zv];exact hsp _ (by omega)) (fun j _=>h.frozenAt _) hvs h1v).mono ?_;rintro e w' ⟨rfl,rfl⟩;obtain⟨a1,a2⟩:=vK hw [.string ⟨s.toArray⟩] (0+l.length) (by rw[hyl];simp;omega);have c1:=kS a1 (m:=l.length+1) (by omega);refine⟨_,cap,some g,by rw[hlen],?_,a2,fun k hk=>by injection hk with hk;rw[hk],.inl rfl⟩;rw[hlen];have:(ys.take (0+l.length)++[Value.string ⟨s.toArray⟩]++ys.drop (0+l.length+[Value.string ⟨s.toArray⟩].length)).take ((l.length+1)*1)=(l.take l.length++s::l.drop l.length).map encStr:=by
     rw[zv,hys,zj (by simp),zm (by simp)];simp[encStr]
    rw[← this];exact c1
 ·have hgc:∀ C,C=grownCap w (l.length+1) cap 9→l.length+1≤C∧C≤maxLen:=fun C hC=>by
   subst hC;exact⟨grownCap_ge w (l.length+1) cap _,grownCap_le_maxLen w (l.length+1) cap _ (by unfold maxLen;omega)⟩
  have hbig:(l.length+1)*16≤140737488355328:=by omega
  by_cases hki:k<l.length
  ·rcases nQ h with ⟨rfl,rfl,rfl⟩ | ⟨g,rfl⟩
   ·simp at hki
   ·have hcs:∀ j v,(l.map encStr)[j]?=some v→w.cell? ⟨g,0+j,none⟩=some v:=fun j v hj=>by
     have hjl:=(zM.1 hj).1;rw[zT] at hjl;rw[zv,h.cellAt j (by omega)];exact hj
    have hres:=Any2.slices_Insert_string_grow Tryz.insertS g 0 l.length cap k vb 0 1 1 (l.map encStr) [.string ⟨s.toArray⟩] w hki (by omega) hncap (by omega) hbig (by simp) rfl hcs hvs h1c h1v;obtain⟨C,hC⟩:∃ C,C=grownCap w (l.length+1) cap 9:=⟨_,rfl⟩;obtain⟨g1,g2⟩:=hgc C hC;obtain⟨cur,hcur⟩:∃ cur,cur=(((l.map encStr).take k).toArray++Builtin.zeroCells (Value.string ⟨#[]⟩).cells (l.length+1-k)++Builtin.zeroCells (Value.string ⟨#[]⟩).cells (C-(l.length+1))):=⟨_,rfl⟩;have hcz:cur.size=C:=by
     rw[hcur];simp only[Array.size_append,List.size_toArray,List.length_take,zT,size_zeroCells];show min k l.length+(l.length+1-k)*1+(C-(l.length+1))*1=C;omega
    refine hres.mono ?_;rintro e w' ⟨rfl,hw'⟩;have hw2:w'=(((w.alloc (.cells cur 9)).drew.setCells w.heap.size k [.string ⟨s.toArray⟩]).drew).setCells w.heap.size (k+1) ((l.map encStr).drop k):=by rw[hw',hcur,hC];rfl
    subst hw2;have hn:=qHa (w:=w) (base:=base) (e:=9) (cur:=cur) hb (by rw[hcz];exact g2);have hcl:cur.toList.length=C:=by rw[Array.length_toList];exact hcz
    obtain⟨a1,a2⟩:=vK (w:=(w.alloc (.cells cur 9)).drew) hn [.string ⟨s.toArray⟩] k (by rw[hcl];simp;omega);obtain⟨b1,b2⟩:=vK (w:=((w.alloc (.cells cur 9)).drew.setCells w.heap.size k [.string ⟨s.toArray⟩]).drew) a1 ((l.map encStr).drop k) (k+1) (by rw[a1.1,hcz];simp;omega);have c1:=kS b1 (m:=l.length+1) (by omega);rw[hcz] at c1;refine⟨_,C,none,by rw[hlen,hC];rfl,?_,?_,fun k hk=>(by cases hk),.inr ⟨_,rfl,zo _⟩⟩
    ·rw[hlen];have e1:(cur.toList.take k)=(l.map encStr).take k:=by
      rw[hcur];simp only[Array.toList_append];rw[List.append_assoc,List.take_left' (by simp;omega)]
     have e2:(cur.toList.take k++[Value.string ⟨s.toArray⟩]++cur.toList.drop (k+[Value.string ⟨s.toArray⟩].length)).take (k+1)=(l.map encStr).take k++[Value.string ⟨s.toArray⟩]:=by
      rw[e1,List.take_left' (by simp;omega)]
     have:((cur.toList.take k++[Value.string ⟨s.toArray⟩]++cur.toList.drop (k+[Value.string ⟨s.toArray⟩].length)).take (k+1)++(l.map encStr).drop k++(cur.toList.take k++[Value.string ⟨s.toArray⟩]++cur.toList.drop (k+[Value.string ⟨s.toArray⟩].length)).drop (k+1+((l.map encStr).drop k).length)).take ((l.length+1)*1)=(l.take k++s::l.drop k).map encStr:=by
      rw[e2,zj (by simp;omega),zm (by simp;omega)];simp[encStr,List.map_take,List.map_drop]
     rw[← this];exact c1
    ·refine⟨b2.os.trans a2.os,b2.tape.trans a2.tape,b2.output.trans a2.output,zq (by simp) (zq a2.size b2.size),fun i hi _=>?_⟩;have hne:some i≠some w.heap.size:=fun e=>by injection e with e;omega
     exact(b2.block i (zt hi (zq (by simp) a2.size)) hne).trans ((a2.block i (zt hi (by simp)) hne).trans (Below.heap_alloc w _ i hi))
  ·obtain rfl:k=l.length:=by omega
   have hnil:A=none→l.length=0:=fun e=>by
    subst e
    rcases nQ h with ⟨_,rfl,_⟩ | ⟨g,e⟩
    ·rfl
    ·cases e
   have hcs:∀ a,A=some a→∀ j v,(l.map encStr)[j]?=some v→w.cell? (a.add j)=some v:=fun a ha j v hj=>by
    subst ha;exact qFq h a rfl j v hj
   have hres:=Any2.slices_Insert_string_end_grow Tryz.insertS A l.length cap vb 0 1 1 (l.map encStr) [.string ⟨s.toArray⟩] w (by omega) hncap (by omega) hbig (by simp) rfl hnil hcs hvs h1v;obtain⟨C,hC⟩:∃ C,C=grownCap w (l.length+1) cap 9:=⟨_,rfl⟩;obtain⟨g1,g2⟩:=hgc C hC;obtain⟨cur,hcur⟩:∃ cur,cur=((l.map encStr++[Value.string ⟨s.toArray⟩]).toArray++Builtin.zeroCells (Value.string ⟨#[]⟩).cells (C-(l.length+1))):=⟨_,rfl⟩;have hcz:cur.size=C:=by
    rw[hcur];simp only[Array.size_append,List.size_toArray,zP,zT,size_zeroCells,zQ,List.length_nil];show l.length+(0+1)+(C-(l.length+1))*1=C;omega
   refine hres.mono ?_;rintro e w' ⟨rfl,hw'⟩;have hw2:w'=w.drew.alloc (.cells cur 9):=by rw[hw',hcur,hC];rfl
   subst hw2;have hn:=qHa (w:=w.drew) (base:=base) (e:=9) (cur:=cur) hb (by rw[hcz];exact g2);have c1:=kS hn (m:=l.length+1) (by omega);rw[hcz] at c1;refine⟨_,C,none,by rw[hlen,hC];rfl,?_,⟨rfl,rfl,rfl,by simp,fun i hi _=>Below.heap_alloc w.drew _ i hi⟩,fun k hk=>(by cases hk),.inr ⟨_,rfl,zo _⟩⟩;rw[hlen];have:cur.toList.take ((l.length+1)*1)=(l.take l.length++s::l.drop l.length).map encStr:=by
    rw[hcur];simp only[Array.toList_append];rw[zj (by simp),zm (by simp)];simp[encStr]
   rw[← this];exact c1
theorem qH4 {w:World}{base g cap:Nat}{l:List (List UInt8)}(h:w.ownsRow base 9 1 (.slice (some ⟨g,0,none⟩) l.length cap) l.length (l.map encStr))(k:Nat)(hk:k<l.length) :
  Calls Tryz.prog 125 #[.slice (some ⟨g,0,none⟩) l.length cap,.int .i64 k,.int .i64 ((k:Int)+1)] w fun e w'=>e=.returned (.slice (some ⟨g,0,none⟩) (l.length-1) cap) ∧
   w'.ownsRow base 9 1 (.slice (some ⟨g,0,none⟩) (l.length-1) cap) (l.length-1) ((l.eraseIdx k).map encStr)∧w.grownBy w' (some g):=by
 have hncap:=yG h;have hcm:cap≤9223372036854775807:=by
  rcases h.2 with ⟨e1,_⟩ | ⟨g',cp,cur,e1,_,_,_,h5,_⟩
  ·cases e1
  ·injection e1 with _ _ e3;unfold maxLen at h5;omega
 have hsx:Lib.strsOf (fun t=>(⟨(l[t]?.getD []).toArray⟩:ByteArray)) l.length=l:=by
  unfold Lib.strsOf;apply List.ext_getElem
  ·simp
  ·intro i h1 h2;simp[h2]
 have hd:=Tryz.slices_Delete_string_cells g 0 l.length cap k (k+1) (fun t=>(⟨(l[t]?.getD []).toArray⟩:ByteArray)) w hncap hcm (by omega) (by omega) (fun i hi=>by
  rw[zv,h.cellAt i (by omega),zN,zL hi]
  simp[encStr]) (fun j _=>h.frozenAt _)
 rw[hsx] at hd;have hk1:(((k+1:Nat)):Int)=(k:Int)+1:=by omega
 rw[hk1,show l.length-(k+1-k)=l.length-1 by omega] at hd;refine hd.mono ?_;rintro e w' ⟨rfl,q,rfl⟩;have hq:(w.drewN q).ownsRow base 9 1 (.slice (some ⟨g,0,none⟩) l.length cap) l.length (l.map encStr):=h.kept (Below.toGrown (Below.drewN (zB _ w) q) none) (by cases Value.ownBlock (Value.slice (some ⟨g,0,none⟩) l.length cap)<;>simp);obtain⟨a1,a2⟩:=vK hq ((l.take k++l.drop (k+1)++List.replicate (k+1-k) []).map encStr) 0 (by simp;omega);have c1:=kS a1 (m:=l.length-1) (by omega);refine⟨rfl,?_,qGU (Below.toGrown (Below.drewN (zB _ w) q) (some g)) a2⟩;have:(((l.map encStr).take 0++(l.take k++l.drop (k+1)++List.replicate (k+1-k) []).map encStr++(l.map encStr).drop (0+((l.take k++l.drop (k+1)++List.replicate (k+1-k) []).map encStr).length)).take ((l.length-1)*1))=(l.eraseIdx k).map encStr:=by
  rw[List.take_zero,zh,List.eraseIdx_eq_take_drop_succ,zU,List.append_assoc,List.take_left' (by simp;omega)]
 rw[← this];exact c1
end Go.Proofs.YtbmkaekimccdgaaGreatDoor
