/- Lemmas. -/
import Derived.Laws.EntriesVeiled
import Derived.Test.YtbmkaekimccdgaaGreatDoorBm45
set_option maxHeartbeats 16000000
set_option maxRecDepth 1000000
set_option linter.all false
namespace Go.Proofs.YtbmkaekimccdgaaGreatDoor
open Go.RowKit Go.Sort Go.Shelf Stl
def fnV (k:Int)(f:Nat):Value:=.agg #[.int .i64 k,.func (.func f) #[] #[]]
def oP (x:List UInt8):Option Value :=
 if x=dV then some (fnV 1 34)
 else if x=uM then some (fnV 1 33)
 else if x=mZ then some (fnV 2 32)
 else if x=oE then some (fnV 2 31)
 else if x=pU then some (fnV 0 30)
 else if x=oN then some (fnV 1 29)
 else none
theorem pQ {w0 w:World}{b n:Nat}{f:List UInt8→Option Value}(h:vM w b n f)(hb:Below w0.heap.size w0 w)(h0:w0.heap.size≤b)(hn:n≤10)(x:List UInt8)(hx:x.length≤10)(v:Value) :
  ∃ w',(Instr.mapUpdate 65 (.map (some b)) (.string ⟨x.toArray⟩) v).run Tryz.prog w=.ok () w'∧vM w' b (n+1) (fun j=>if j=x then some v else f j)∧Below w0.heap.size w0 w':=by
 obtain⟨w',h1,h2,h3⟩:=h.put okS Tryz.underlying65 (by unfold maxLen;omega) (i:=x) (by unfold maxLen;omega) v;exact⟨w',h1,h2,hb.grown h3.grown hb.size (fun k hk=>by injection hk with hk;omega)⟩
theorem qB1 (w:World):Calls Tryz.prog 20 #[] w fun e w'=>∃ b,e=.returned (.map (some b))∧Below w.heap.size w w'∧vM w' b 6 oP:=by
 have hmm:=@run_makeMap Tryz.prog;have m0:vM (w.alloc (.map #[] 0)) w.heap.size 0 (fun _=>none):=zzMapAt.made w Tryz.prog 9 oB;have b0:Below w.heap.size w (w.alloc (.map #[] 0)):=(zB _ _).alloc (zo _) _;obtain⟨w1,r1,m1,b1⟩:=pQ m0 b0 (zo _) (by omega) [99,117,116] (by decide) (.agg #[.int .i64 1,.func (.func 29) #[] #[]]);obtain⟨w2,r2,m2,b2⟩:=pQ m1 b1 (zo _) (by omega) [97,103,97,105,110] (by decide) (.agg #[.int .i64 0,.func (.func 30) #[] #[]]);obtain⟨w3,r3,m3,b3⟩:=pQ m2 b2 (zo _) (by omega) [100,105,102,102] (by decide) (.agg #[.int .i64 2,.func (.func 31) #[] #[]]);obtain⟨w4,r4,m4,b4⟩:=pQ m3 b3 (zo _) (by omega) [102,111,108,108,111,119] (by decide) (.agg #[.int .i64 2,.func (.func 32) #[] #[]]);obtain⟨w5,r5,m5,b5⟩:=pQ m4 b4 (zo _) (by omega) [102,105,108,101,115] (by decide) (.agg #[.int .i64 1,.func (.func 33) #[] #[]]);obtain⟨w6,r6,m6,b6⟩:=pQ m5 b5 (zo _) (by omega) [115,105,122,101] (by decide) (.agg #[.int .i64 1,.func (.func 34) #[] #[]]);have HM:=Hh (show vM w6 w.heap.size 6 oP from m6.congr fun x=>rfl);have HB:=Hh b6;clear m0 m1 m2 m3 m4 m5 m6 b0 b1 b2 b3 b4 b5 b6;go_enter Tryz.func20,Tryz.ntmps20;go_wp2;go_ret;exact⟨w.heap.size,rfl,HB.o,HM.o⟩
theorem qNv (w:World):(zeroValue 63).run Tryz.prog w=.ok (.agg #[.int .i64 0,.nilFunc]) w:=by kernel_rfl
theorem mC {w:World}{b n:Nat}(h:vM w b n oP)(x:List UInt8)(hx:x.length≤1000) :
  (Instr.lookup 65 (.map (some b)) (.string ⟨x.toArray⟩) true).run Tryz.prog w=.ok (.tuple #[(oP x).getD (.agg #[.int .i64 0,.nilFunc]),.bool (oP x).isSome]) w :=
 h.getOk (t:=65) okS Tryz.underlying65 (qNv w) (i:=x) (by unfold maxLen;omega)
def qOL (h:List UInt8)(k f:Nat):Prop :=
 ∀ (w:World) (c:Nat→Col) (pb b tp:Nat) (p:Nat→Addr) (s:Sto) (t:Stl.Tape) (i:Nat) (rs:List (List UInt8)) (x:List UInt8),PlAt w c pb b tp p s t→i≤300→ScrOk 64 i s t rs x →
  ∀ (r:List (List UInt8)) (A:Option Addr) (cr:Nat),r.length=k→(∀ x∈r,x.length≤250)→Strs w (.slice A r.length cr) r→Calls Tryz.prog f #[.pointer (some ⟨pb,0,none⟩),.slice A r.length cr] w (PyPost p w c pb tp (mW s t h r))
theorem dB (s:Sto)(t:Stl.Tape)(h:List UInt8)(r:List (List UInt8))(h1:h≠oN)(h2:h≠pU):mW s t h r=(uX s h r,s,t):=by
 unfold mW;rw[zL1 h1,zL1 h2]
theorem qMZ (h:List UInt8):(mG h=none∧oP h=none)∨∃ k f:Nat,mG h=some k∧k≤2∧oP h=some (fnV k f)∧qOL h k f∧(f=34∨f=33∨f=32∨f=31∨f=30∨f=29):=by
 by_cases e1:h=dV
 ·subst e1;exact .inr ⟨1,_,by decide,by decide,zM1 rfl,(fun w c pb b tp p s t i rs x hp hi ho r A cr hr hrl hs=>by
   rw[dB s t _ r (by decide) (by decide)]
   exact(qLq hp (gX ho.size hi) r hr hrl A cr hs).mono fun _ _ hq=>pX hp hq),.inl rfl⟩
 by_cases e2:h=uM
 ·subst e2;exact .inr ⟨1,_,by decide,by decide,(zL1 e1).trans (zM1 rfl),(fun w c pb b tp p s t i rs x hp hi ho r A cr hr hrl hs=>by
   rw[dB s t _ r (by decide) (by decide)]
   exact(qJd hp (gX ho.size hi) r hr hrl A cr hs).mono fun _ _ hq=>pX hp hq),.inr (.inl rfl)⟩
 by_cases e3:h=mZ
 ·subst e3;exact .inr ⟨2,_,by decide,by decide,(zL1 e1).trans ((zL1 e2).trans (zM1 rfl)),(fun w c pb b tp p s t i rs x hp hi ho r A cr hr hrl hs=>by
   rw[dB s t _ r (by decide) (by decide)]
   exact(qIW hp (gX ho.size hi) r hr hrl A cr hs).mono fun _ _ hq=>pX hp hq),.inr (.inr (.inl rfl))⟩
 by_cases e4:h=oE
 ·subst e4;exact .inr ⟨2,_,by decide,by decide,(zL1 e1).trans ((zL1 e2).trans ((zL1 e3).trans (zM1 rfl))),(fun w c pb b tp p s t i rs x hp hi ho r A cr hr hrl hs=>by
   rw[dB s t _ r (by decide) (by decide)]
   exact(qIw hp (gX ho.size hi) r hr hrl A cr hs).mono fun _ _ hq=>pX hp hq),.inr (.inr (.inr (.inl rfl)))⟩
 by_cases e5:h=pU
 ·subst e5;exact .inr ⟨0,_,by decide,by decide,(zL1 e1).trans ((zL1 e2).trans ((zL1 e3).trans ((zL1 e4).trans (zM1 rfl)))),(fun w c pb b tp p s t i rs x hp hi ho r A cr hr hrl hs=>by
   obtain rfl:=zH hr
   exact qKE hp hi ho _),.inr (.inr (.inr (.inr (.inl rfl))))⟩
 by_cases e6:h=oN
 ·subst e6;exact .inr ⟨1,_,by decide,by decide,(zL1 e1).trans ((zL1 e2).trans ((zL1 e3).trans ((zL1 e4).trans ((zL1 e5).trans (zM1 rfl))))),(fun w c pb b tp p s t i rs x hp hi ho r A cr hr hrl hs=>qN7 hp r hr hrl A cr hs),.inr (.inr (.inr (.inr (.inr rfl))))⟩
 refine .inl ⟨?_,?_⟩
 ·unfold mG;rw[zL1 e6,zL1 e5,zL1 e4,zL1 e3,zL1 e2,zL1 e1]
 ·unfold oP;rw[zL1 e1,zL1 e2,zL1 e3,zL1 e4,zL1 e5,zL1 e6]
section
variable {w:World}{A:Option Addr}{zs:List PkX}{c:Nat→Col}{b:Nat}{s:Sto}{bd:Nat}{cap:Nat}{R:Option Addr}{rc tp:Nat}{p:Nat→Addr}
theorem qOJ {t:Stl.Tape}(h:StoX w c b s bd A cap zs R rc tp)(ht:TapeAt w c tp t)(hg:vB s)(hE:Env w c p)(line:List UInt8)(hr:line.length≤1000000)(h1:t.b.length≤1048576)(h2:∀ n,t.cut=some n→n≤9223372036854775807) :
  Calls Tryz.prog 21 #[.pointer (some ⟨b,0,none⟩),.string ⟨line.toArray⟩] w (qNf p w c b tp s t line):=by
 have hfew:=h.few hg.ok;have H:=Hh h;have HT:=Hh ht;have HG:=Hh hg;have HE:=Hh hE;have HOF:=Hh h1;have HCU:=Hh h2;have HCO:=Hh (qI4 (kDo c) (fun k hk=>by unfold kDo;rw[zM1 hk]) h hg.good (by omega) (by have:=pJ hg.ok;omega));obtain⟨chg,hchg⟩:∃ chg,chg=s.change line:=⟨_,rfl⟩;have HCH:=Hh hchg;have hbl:=qA h.own;clear h ht hg hE h1 h2;go_enter Tryz.func21,Tryz.ntmps21;go_upto_region 2 with (go_at_call 35;refine HCO.o.mono ?_;rintro ev w2 ⟨b2,c2,rfl,hb2,hc2,hge2,hst2⟩;have HB2:=Hh hb2;have HC2:=Hh hc2;have HST2:=Hh hst2;clear hb2 hc2 hst2);have he2:Ext w w2 c c2 oD:=(Ext.of_below HB2.o c oD).recolor fun k hk hs=>(HC2.o k hk).trans (qHA hs)
 have HE2:=Hh he2;have HEN2:=Hh (HE.o.ext he2 rfl);obtain⟨bd2,A2,cap2,zs2,R2,rc2,hx2⟩:=HST2.o.open;have HX2:=Hh hx2;have HLOW:=Hh (show ∀ k,k<w.heap.size→mU (c2 k)=false from fun k hk=>by rw[HC2.o k hk];exact qGy c k);have HCC:=Hh (qBW hx2 HG.o HEN2.o line (by omega));rw[← hchg] at HCC;clear he2 hx2 hchg
 cases chg with
 | none =>
  have HDL:=Hh (show yH s t line=(s.tell line,s,t) from by unfold yH;rw[← HCH.o]);go_upto_region 4 with (go_at_call 36;refine HCC.o.mono ?_;rintro ev w3 ⟨a3,er3,is3,rfl,rfl,rfl,hb3⟩;have HB3:=Hh hb3;clear hb3);have HTL:=Hh (qMm (HX2.o.below HB3.o) HG.o (HEN2.o.below HB3.o) line (by omega));have HB23:=Hh (HB2.o.trans (HB3.o.mono HB2.o.size))
  cases htl:s.tell line with
  | error cd =>
   rw[htl] at HTL HDL;clear htl;go_upto_region 5 with (go_at_call 37;refine HTL.o.mono ?_;rintro ev w4 ⟨a4,er4,rfl,hb4,rfl,hcd⟩;have HB4:=Hh (HB23.o.trans (hb4.mono HB23.o.size));have HEO:=Hh (qD p hcd);have HCD:=Hh hcd;clear hb4 hcd);rw[HEO.o];have HBR:=Hh (qCy (p cd) w4 (HE.o.below HB4.o).errs);go_wp2_with (go_at_call 39;refine HBR.o.mono ?_;rintro ev w5 ⟨rfl,hb5⟩;have HB5:=Hh (HB4.o.trans (hb5.mono HB4.o.size));clear hb5);go_ret2;refine⟨_,_,c,rfl,Ext.of_below HB5.o c Sdo,?_⟩;rw[HDL.o];exact⟨(H.o.below HB5.o).shut,HT.o.ext (Ext.of_below HB5.o c S0) rfl rfl,by rw[HEO.o];rfl,HCD.o,rfl⟩
  | ok x =>
   rw[htl] at HTL HDL;clear htl;go_upto_region 5 with (go_at_call 37;refine HTL.o.mono ?_;rintro ev w4 ⟨a4,er4,rfl,hb4,rfl,rfl⟩;have HB4:=Hh (HB23.o.trans (hb4.mono HB23.o.size));clear hb4);go_wp2;go_ret2;refine⟨_,_,c,rfl,Ext.of_below HB4.o c Sdo,?_⟩;rw[HDL.o];exact⟨(H.o.below HB4.o).shut,HT.o.ext (Ext.of_below HB4.o c S0) rfl rfl,rfl,rfl⟩
 | some res =>
  cases res with
  | error cd =>
   have HDL:=Hh (show yH s t line=(.error cd,s,t) from by unfold yH;rw[← HCH.o]);go_upto_region 5 with (go_at_call 36;refine HCC.o.mono ?_;rintro ev w3 ⟨a3,er3,is3,rfl,rfl,hch⟩;obtain⟨⟨rfl,hcd⟩,c3,he3⟩:=qIz hch;have HE3:=Hh he3;have HEO:=Hh (qD p hcd);have HCD:=Hh hcd;clear he3 hcd hch);have HB3:=Hh (HB2.o.trans (HE3.o.below HB2.o.size HLOW.o));rw[HEO.o];have HBR:=Hh (qCy (p cd) w3 (HE.o.below HB3.o).errs);go_wp2_with (go_at_call 39;refine HBR.o.mono ?_;rintro ev w5 ⟨rfl,hb5⟩;have HB5:=Hh (HB3.o.trans (hb5.mono HB3.o.size));clear hb5);go_ret2;refine⟨_,_,c,rfl,Ext.of_below HB5.o c Sdo,?_⟩;rw[HDL.o];exact⟨(H.o.below HB5.o).shut,HT.o.ext (Ext.of_below HB5.o c S0) rfl rfl,by rw[HEO.o];rfl,HCD.o,rfl⟩
  | ok q =>
   obtain⟨a,s1⟩:=q;obtain⟨ra,hra⟩:∃ ra,ra=t.append line:=⟨_,rfl⟩;have HDL:=Hh (show yH s t line=if ra.1=0 then (.ok a,s1,ra.2) else (.error ra.1,s,ra.2) from by unfold yH;rw[← HCH.o,hra]);go_upto_region 5 with (go_at_call 36;refine HCC.o.mono ?_;rintro ev w3 ⟨a3,er3,is3,rfl,rfl,hch⟩;obtain⟨⟨rfl,rfl⟩,c3,he3,hs3⟩:=qF5 hch;have HE3:=Hh he3;have HS3:=Hh hs3;clear he3 hch hs3);have HB3:=Hh (HB2.o.trans (HE3.o.below HB2.o.size HLOW.o));have HX3:=Hh (H.o.below HB3.o);have HT3:=Hh ((HT.o.ext HE2.o rfl rfl).ext HE3.o rfl rfl);have c3b:=ce3 HX3.o.own;have HAW:=Hh (qHW HT3.o (HEN2.o.ext HE3.o rfl) line (by omega) HOF.o HCU.o);rw[← hra] at HAW;clear hra;by_cases hr0:ra.1=0
   case neg =>
    rw[zL1 hr0] at HDL;have HEO:=Hh (qD p hr0);have HCD:=Hh hr0;have HAW0:=Hh (show Calls Tryz.prog 38 #[.pointer (some ⟨tp,0,none⟩),.string ⟨line.toArray⟩] w3 (fun e w'=>e=.returned (.iface 376 (.pointer (some (p ra.1))))∧∃ c2,Ext w3 w' c3 c2 vL∧TapeAt w' c2 tp ra.2) from HAW.o.mono (by
     rintro ev w' ⟨rfl,h⟩
     exact⟨by rw[HEO.o],h⟩))
    clear HAW hr0;go_upto_region 7 with (go_at_call 38;refine HAW0.o.mono ?_;rintro ev w4 ⟨rfl,c4,he4,ht4⟩;have HE4:=Hh he4;have HT4:=Hh ht4;clear he4 ht4);clear c3b;have HBR:=Hh (qCy (p ra.1) w4 ((HEN2.o.ext HE3.o rfl).ext HE4.o rfl).errs);go_wp2_with (go_at_call 39;refine HBR.o.mono ?_;rintro ev w5 ⟨rfl,hb5⟩;have HB5:=Hh hb5;clear hb5);go_ret2;have hlt4:w.heap.size≤w4.heap.size:=zq (zq HB2.o.size HE3.o.size) HE4.o.size;have key:∀ k,k<w.heap.size→vL (c k)=false→(w4.heap[k]?=w.heap[k]?∧c4 k=kDo c k∧(kDo c k=.ro∨kDo c k=.dead)):=fun k hk hs=>by
     have hd:kDo c k=.ro∨kDo c k=.dead:=by
      unfold kDo
      cases hc:c k<;>simp[hc] at hs ⊢<;>cases hs
     have e2:=HC2.o k hk;have hk2:=zt hk HB2.o.size;obtain⟨k3,m3⟩:=HE3.o.keep k hk2 (by rw[e2];exact qGy c k);have hc3:c3 k=kDo c k:=m3.trans e2;obtain⟨k4,m4⟩:=HE4.o.keep k (zt hk2 HE3.o.size) (by rw[hc3];rcases hd with h | h<;>rw[h]<;>rfl);exact⟨k4.trans (k3.trans (HB2.o.block k hk)),m4.trans hc3,hd⟩
    have KEY:=Hh key;have e5:Ext w w4 c (fun k=>if k<w.heap.size∧vL (c k)=false then c k else c4 k) vL :=
     ⟨HE4.o.os.trans (HE3.o.os.trans HB2.o.os),HE4.o.tape.trans (HE3.o.tape.trans HB2.o.tape),HE4.o.output.trans (HE3.o.output.trans HB2.o.output),hlt4,fun k hk hs=>⟨(KEY.o k hk hs).1,zM1 ⟨hk,hs⟩⟩⟩
    have e6:Ext w4 w4 c4 (fun k=>if k<w.heap.size∧vL (c k)=false then c k else c4 k) (fun y=>!vL y) :=
     (Ext.refl w4 c4 _).recolor fun k hk hs=>zL1 fun h=>by
      obtain⟨_,h2,h3⟩:=KEY.o k h.1 h.2;rw[h2] at hs
      rcases h3 with h3 | h3<;>rw[h3] at hs<;>cases hs
    refine⟨_,_,(fun k=>if k<w.heap.size∧vL (c k)=false then c k else c4 k),rfl,(e5.mono (S':=Sdo) (fun x hx=>by cases x<;>first | rfl | (cases hx))).trans (Ext.of_below HB5.o _ _),?_⟩;rw[HDL.o];exact⟨((H.o.ext e5 rfl (fun x hx=>by cases x<;>first | rfl | (cases hx))).below HB5.o).shut,(HT4.o.ext e6 rfl rfl).ext (Ext.of_below HB5.o _ S0) rfl rfl,by rw[HEO.o];rfl,HCD.o,rfl⟩
   case pos =>
   rw[zM1 hr0] at HDL;have HAW0:=Hh (show Calls Tryz.prog 38 #[.pointer (some ⟨tp,0,none⟩),.string ⟨line.toArray⟩] w3 (fun e w'=>e=.returned .nilIface∧∃ c2,Ext w3 w' c3 c2 vL∧TapeAt w' c2 tp ra.2) from HAW.o.mono (by
    rintro ev w' ⟨rfl,h⟩
    exact⟨by rw[hr0];rfl,h⟩))
   clear HAW;go_upto_region 7 with (go_at_call 38;refine HAW0.o.mono ?_;rintro ev w4 ⟨rfl,c4,he4,ht4⟩;have HE4:=Hh he4;have HT4:=Hh ht4;clear he4 ht4);clear c3b;obtain⟨bd4,A4,cap4,zs4,R4,rc4,hx4⟩:=(HS3.o.ext HE4.o rfl (fun x hx=>by cases x<;>first | rfl | (cases hx))).open;have HX4:=Hh hx4;have hb3d:c3 b=.dead:=(HE3.o.col (zt hbl HB2.o.size) (show c2 b=.dead from by rw[HC2.o b hbl];unfold kDo;rw[H.o.col];decide) rfl);have hob:=HE4.o.kept HX3.o.own hb3d rfl;have HOB:=Hh hob;obtain⟨a0,a1,a2,a3⟩:=cq hx4.own;have f0:w4.frozen? ⟨b,0,none⟩=false:=qC hob.1 0;have f1:w4.frozen? ⟨b,1,none⟩=false:=qC hob.1 1;have f2:w4.frozen? ⟨b,2,none⟩=false:=qC hob.1 2;have f3:w4.frozen? ⟨b,3,none⟩=false:=qC hob.1 3;obtain⟨b0,b1,b2c,b3c⟩:=cq hob.1;clear hx4 hob hb3d;go_wp2;go_ret2;have hc5:=qM c4 b .sto;have hS5:S1 .sto (jC c4 b .sto b)=true:=by rw[hc5];rfl
   have hSb:Sdo (c b)=true:=by rw[H.o.col];rfl
   have e5:=((((Ext.refl w4 (jC c4 b .sto) (S1 .sto)).setCell (a:=⟨b,0,none⟩) (fun _=>hS5) (.pointer (some ⟨bd4,0,none⟩))).setCell (a:=⟨b,1,none⟩) (fun _=>hS5) (.slice A4 zs4.length cap4)).setCell (a:=⟨b,2,none⟩) (fun _=>hS5) (.slice R4 s1.roots.length rc4)).setCell (a:=⟨b,3,none⟩) (fun _=>hS5) (.pointer (some ⟨tp,0,none⟩));have ep:=Ext.paint w4 HOB.o.2 .sto;have ew:Ext w w4 c (jC c4 b .sto) Sdo:=(((HE2.o.mono (S':=Sdo) (fun x hx=>by cases x<;>first | rfl | (cases hx))).then HE3.o (fun x hx=>by cases x<;>first | rfl | (cases hx))).then HE4.o (fun x hx=>by cases x<;>first | rfl | (cases hx))).recolor fun k hk hs=>kK (fun e=>by rw[e,hSb] at hs;cases hs)
   have e5w:=(((ew.setCell (a:=⟨b,0,none⟩) (fun _=>hSb) (.pointer (some ⟨bd4,0,none⟩))).setCell (a:=⟨b,1,none⟩) (fun _=>hSb) (.slice A4 zs4.length cap4)).setCell (a:=⟨b,2,none⟩) (fun _=>hSb) (.slice R4 s1.roots.length rc4)).setCell (a:=⟨b,3,none⟩) (fun _=>hSb) (.pointer (some ⟨tp,0,none⟩));have ho5:=qH (qH (qH (qH HOB.o.1 0 (.pointer (some ⟨bd4,0,none⟩))) 1 (.slice A4 zs4.length cap4)) 2 (.slice R4 s1.roots.length rc4)) 3 (.pointer (some ⟨tp,0,none⟩));refine⟨_,_,jC c4 b .sto,rfl,e5w,?_⟩;rw[HDL.o];exact⟨(HX4.o.moved HOB.o.2 e5 ho5 hc5).shut,(HT4.o.ext ep rfl rfl).ext e5 rfl rfl,rfl,rfl⟩
end
theorem PyPost.lay {w w1 w':World}{c:Nat→Col}{pb tp:Nat}{p:Nat→Addr}{q:Except Nat (List UInt8)×Sto×Stl.Tape}{ev:Ending}(hb:Below w.heap.size w w1)(h:PyPost p w1 c pb tp q ev w') :
  ∃ (a:ByteArray) (er:Value),ev=.returned (.tuple #[.string a,er])∧PyPost p w c pb tp q (.returned (.tuple #[.string a,er])) w':=by
 obtain⟨a,er,b',c2,rfl,hf,hp,hm⟩:=h;exact⟨a,er,rfl,a,er,b',c2,rfl,(Ext.of_below hb (jC c pb .sto) Sdo).trans hf,hp,hm⟩
theorem step_eq (s:Sto)(t:Stl.Tape){line hd:List UInt8}{r:List (List UInt8)}(h:qG 32 line=hd::r) :
  qL s t line=match mG hd with | none=>yH s t line | some k=>if r.length=k then mW s t hd r else (.error 1,s,t):=by
 unfold qL;rw[h]
 cases hw:mG hd<;>simp[hw]
theorem qIB (W:World)(g n:Nat)(hn:0<n):(Instr.slice 22 (.slice (some ⟨g,0,none⟩) (n+1) (n+1)) (some (.int .i64 1)) none none).run Tryz.prog W=.ok (.slice (some ⟨g,1,none⟩) n n) W:=by
 have h2:(1:Int)≤(n:Int)+1:=by omega
 have h4:¬ n=0:=by omega
 simp[go_sem,h2,h4]
theorem qJj {w:World}{g:Nat}{hd:List UInt8}{r:List (List UInt8)}{c c':Nat}(h:Strs w (.slice (some ⟨g,0,none⟩) (r.length+1) c) (hd::r)):Strs w (.slice (some ⟨g,1,none⟩) r.length c') r:=by
 obtain⟨A,cc,he,hj⟩:=h;refine⟨_,_,rfl,fun _=>?_⟩;obtain⟨b,off,hA,hb,hx⟩:=hj (by simp);injection he with e1 e2 e3
 rw[hA] at e1;injection e1 with e1
 injection e1 with e1 e2
 subst e1 e2;exact⟨g,1,rfl,hb,fun j x h=>by have:=hx (j+1) x (by simpa using h);rw[show 1+j=0+(j+1) by omega];exact this⟩
theorem qLJ {w:World}{c:Nat→Col}{pb b tp:Nat}{p:Nat→Addr}{s:Sto}{t:Stl.Tape}{i:Nat}{rs:List (List UInt8)}{x:List UInt8}(h:PlAt w c pb b tp p s t)(hi:i≤300)(ho:ScrOk 64 i s t rs x)(line:List UInt8)(hl:line.length≤250) :
  Calls Tryz.prog 12 #[.pointer (some ⟨pb,0,none⟩),.string ⟨line.toArray⟩] w (PyPost p w c pb tp (qL s t line)):=by
 obtain⟨hd,r,hL⟩:∃ hd r,qG 32 line=hd::r:=by
  cases hq:qG 32 line with
  | nil=>exact absurd hq (qMk 32 line)
  | cons a b=>exact⟨a,b,rfl⟩
 have HQ:=Hh (step_eq s t hL);generalize qL s t line=q at HQ ⊢;obtain⟨m,hm⟩:=h.st.env.max;have HSP:=Hh (qDR 32 line (by omega) w hm);have hc:=kY 32 line;have hsh:=qAh 32 line;rw[hL] at HSP hc hsh;simp only[zQ] at HSP hc;have HSH:=Hh (show ∀ y∈r,y.length≤250 from fun y hy=>by have:=hsh y (by simp[hy]);omega);have hhd:hd.length≤250:=by have:=hsh hd (by simp);omega
 have HPL:=Hh h;have HO:=Hh ho;have HLT:=Hh (qA h.own);clear h ho hL hsh hm;go_enter Tryz.func12,Tryz.ntmps12;go_upto_region 2 with (go_at_call 19;refine HSP.o.mono ?_;rintro ev w1 ⟨rfl,ho1,hb1⟩;have HO1:=Hh ho1;have HB1:=Hh hb1;clear ho1 hb1);have q0:w1.cell? ⟨w.heap.size,0,none⟩=some (.string ⟨hd.toArray⟩):=by
  rw[HO1.o.cellAt 0 (by omega)];rfl
 have HST:=Hh (qJj (c':=r.length) (show Strs w1 _ (hd::r) from jS HO1.o));have hgl:w.heap.size<w1.heap.size:=(HO1.o.lt _ rfl).2;have HSS:=Hh (fun (w':World) (hb:Below w1.heap.size w1 w')=>(hb.cell (p:=⟨w.heap.size,0,none⟩) hgl).trans q0);have hs0:(fun w':World=>w'.cell? ⟨w.heap.size,0,none⟩=some (.string ⟨hd.toArray⟩)) w1:=q0;have HBD:=Hh (zB w1.heap.size w1).drew;have HBN:=Hh ((zB w1.heap.size w1).alloc (zo _) (.cells #[.int .i64 0,.nilFunc] 63));have HS1:=Hh (HSS.o _ HBN.o);have HCA:=Hh (qB1 w1.drew);have HCB:=Hh (qB1 (w1.alloc (.cells #[.int .i64 0,.nilFunc] 63)).drew);have HXB:Hg ((w1.alloc (.cells #[.int .i64 0,.nilFunc] 63)).drew.heap[w1.heap.size]?=some (.cells #[.int .i64 0,.nilFunc] 63 (0,0))):=Hh (zK1 _ _);have HN1:=Hh (show w1.heap.size≠w.heap.size by omega);have i0:(0:Int)<((r.length+1:Nat):Int):=by omega
 clear q0 HSP
 rcases qMZ hd with ⟨hw,hv⟩ | ⟨k,f,hw,hk2,hv,hdo,hfl⟩
 ·go_cut [7,8] (fun x e wx=>∃ g:Nat,x=.pointer (some ⟨g,0,none⟩)∧e=.bool false∧Hg (wx.heap[g]?=some (.cells #[.int .i64 0,.nilFunc] 63 (0,0))∧Below w1.heap.size w1 wx))
  case first =>
   go_region_held3 (fun w'=>w'.cell? ⟨w.heap.size,0,none⟩=some (.string ⟨hd.toArray⟩))
    (first
     | exact hs0
     | exact HS1.o
     | exact HS2.o
     | exact HSA.o _
     | exact kX (kX HS2.o HN1.o) HN1.o
     | go_keep)
    (first
     | (go_at_call 20;((with_reducible refine HCA.o.mono ?_);rintro ev w2 ⟨mb,rfl,hb2,hm2⟩;have hb3:=HBD.o.trans hb2;have HB3:=Hh hb3;have HS2:=Hh (HSS.o _ hb3);have HSA:=Hh (fun o:Obj=>HSS.o _ (hb3.alloc hb3.size o));have l1:=mC hm2 hd (by omega);have l2:=mC (hm2.of_block (((zB _ _).alloc (zo _) (.cells #[.int .i64 0,.nilFunc] 63)).block _ hm2.lt)) hd (by omega);rw[hv] at l1 l2;simp only[Option.getD_none,Option.isSome_none] at l1;simp only[Option.getD_none,Option.isSome_none] at l2;clear hb2 hb3 hm2))
     | (go_at_call 20;((with_reducible refine HCB.o.mono ?_);rintro ev w2 ⟨mb,rfl,hb2,hm2⟩;have hb3:=HBN.o.drew.trans (hb2.mono HBN.o.size);have HB3:=Hh hb3;have hy2:=(hb2.block _ (qA HXB.o)).trans HXB.o;have HS2:=Hh (HSS.o _ hb3);have l1:=mC hm2 hd (by omega);rw[hv] at l1;simp only[Option.getD_none,Option.isSome_none] at l1;have HY2:=Hh hy2;have z0:=ce0 hy2;have z1:=ce1 hy2;have f0:=qC hy2 0;have f1:=qC hy2 1;clear hb2 hb3 hm2 hy2))
     | fail)
   all_goals
    go_wp2;go_meet
    case rel=>first
     | exact⟨_,rfl,rfl,Hh ⟨zK1 _ _,HB3.o.alloc HB3.o.size _⟩⟩
     | exact⟨_,rfl,rfl,Hh ⟨qH (qH HY2.o 0 _) 1 _,(HB3.o.setCell (p:=⟨w1.heap.size,0,none⟩) (zo _) _).setCell (p:=⟨w1.heap.size,1,none⟩) (zo _) _⟩⟩
  case rest =>
   obtain⟨g,rfl,rfl,HG⟩:=hcut;rw[hw] at HQ;have HB2:=Hh (HB1.o.trans (HG.o.2.mono HB1.o.size));have HP2:=Hh (HPL.o.below HB2.o);have p0:=ce0 HP2.o.own;obtain⟨xbd,xA,xcap,xzs,xR,xrc,hx⟩:=HP2.o.st.sto.open;have HDO:=Hh (qOJ hx HP2.o.st.tape (gX HO.o.size hi) HP2.o.st.env line (by omega) (by have:=HO.o.len;omega) HO.o.cut);clear hx hs0 hw hv HSS HCA HCB HXB HS1;go_wp2_with (go_at_call 21;(with_reducible refine HDO.o.mono ?_);intro ev w5 hp;obtain⟨a5,er5,rfl,hq5⟩:=(qLg HP2.o hp).lay HB2.o;have HY:=Hh hq5;clear hp hq5);go_ret2;rw[HQ.o];exact HY.o
 ·go_cut [7,8] (fun x e wx=>∃ g:Nat,x=.pointer (some ⟨g,0,none⟩)∧e=.bool true∧Hg (wx.heap[g]?=some (.cells #[.int .i64 k,.func (.func f) #[] #[]] 63 (0,0))∧Below w1.heap.size w1 wx))
  case first =>
   go_region_held3 (fun w'=>w'.cell? ⟨w.heap.size,0,none⟩=some (.string ⟨hd.toArray⟩))
    (first
     | exact hs0
     | exact HS1.o
     | exact HS2.o
     | exact HSA.o _
     | exact kX (kX HS2.o HN1.o) HN1.o
     | go_keep)
    (first
     | (go_at_call 20;((with_reducible refine HCA.o.mono ?_);rintro ev w2 ⟨mb,rfl,hb2,hm2⟩;have hb3:=HBD.o.trans hb2;have HB3:=Hh hb3;have HS2:=Hh (HSS.o _ hb3);have HSA:=Hh (fun o:Obj=>HSS.o _ (hb3.alloc hb3.size o));have l1:=mC hm2 hd (by omega);have l2:=mC (hm2.of_block (((zB _ _).alloc (zo _) (.cells #[.int .i64 0,.nilFunc] 63)).block _ hm2.lt)) hd (by omega);rw[hv] at l1 l2;simp only[zx,Option.isSome_some,fnV] at l1;simp only[zx,Option.isSome_some,fnV] at l2;clear hb2 hb3 hm2))
     | (go_at_call 20;((with_reducible refine HCB.o.mono ?_);rintro ev w2 ⟨mb,rfl,hb2,hm2⟩;have hb3:=HBN.o.drew.trans (hb2.mono HBN.o.size);have HB3:=Hh hb3;have hy2:=(hb2.block _ (qA HXB.o)).trans HXB.o;have HS2:=Hh (HSS.o _ hb3);have l1:=mC hm2 hd (by omega);rw[hv] at l1;simp only[zx,Option.isSome_some,fnV] at l1;have HY2:=Hh hy2;have z0:=ce0 hy2;have z1:=ce1 hy2;have f0:=qC hy2 0;have f1:=qC hy2 1;clear hb2 hb3 hm2 hy2))
     | fail)
   all_goals
    go_wp2;go_meet
    case rel=>first
     | exact⟨_,rfl,rfl,Hh ⟨zK1 _ _,HB3.o.alloc HB3.o.size _⟩⟩
     | exact⟨_,rfl,rfl,Hh ⟨qH (qH HY2.o 0 _) 1 _,(HB3.o.setCell (p:=⟨w1.heap.size,0,none⟩) (zo _) _).setCell (p:=⟨w1.heap.size,1,none⟩) (zo _) _⟩⟩
  case rest =>
   obtain⟨g,rfl,rfl,HG⟩:=hcut;rw[hw] at HQ;have HB2:=Hh (HB1.o.trans (HG.o.2.mono HB1.o.size));have HP2:=Hh (HPL.o.below HB2.o);have g0:=ce0 HG.o.1;have g1:=ce1 HG.o.1;have HDO:=Hh hdo;clear hs0 hw hv HSS HCA HCB HXB HS1 hdo;by_cases hrk:r.length=k
   ·have HQ2:=Hh (HQ.o.trans (zM1 hrk));subst hrk;have HBD2:=Hh (zB wc.heap.size wc).drew;obtain⟨A1,hsl,hst⟩:∃ A1:Addr,(∀ W:World,(Instr.slice 22 (.slice (some ⟨w.heap.size,0,none⟩) (r.length+1) (r.length+1)) (some (.int .i64 1)) none none).run Tryz.prog W=.ok (.slice (some A1) r.length r.length) W)∧Strs wc.drew (.slice (some A1) r.length r.length) r:=by
     have h3:=HST.o.later (HG.o.2.trans (HBD2.o.mono HG.o.2.size))
     cases r with
     | nil=>exact⟨⟨w.heap.size,0,none⟩,fun W=>by kernel_rfl,_,_,rfl,fun h=>absurd rfl h⟩
     | cons y r2=>exact⟨⟨w.heap.size,1,none⟩,fun W=>qIB W _ _ (Nat.succ_pos _),h3⟩
    have HDW:=Hh (HDO.o wc.drew c pb b tp p s t i rs x (HP2.o.below HBD2.o) hi HO.o r (some A1) r.length rfl HSH.o hst);have HB5:=Hh (HB2.o.trans (HBD2.o.mono HB2.o.size));clear HST HO1 hst;go_upto_region 7 with fail
    rcases hfl with rfl | rfl | rfl | rfl | rfl | rfl
    all_goals
     go_region_law
      (first
       | (go_simp;(with_reducible refine HDW.o.mono ?_);intro ev w5 hp;obtain⟨a5,er5,rfl,hq5⟩:=hp.lay HB5.o;have HY:=Hh hq5;clear hp hq5)
       | fail)
     go_wp2;go_ret2;rw[HQ2.o];exact HY.o
   ·have HQ2:=Hh (HQ.o.trans (zL1 hrk));have e1:wc.cell? ⟨1,0,none⟩=some (.iface 376 (.pointer (some (p 1)))):=(HP2.o.st.env.errs.cell 1 (by decide) (by decide)).trans (by rw[qD p (by decide)]);have i1:((r.length:Int)+1-1 != (k:Int))=true:=by simp;omega
    have HRK:=Hh hrk;clear hrk;go_upto_region 6 with fail;go_quiet (fail);go_wp2;go_ret2;rw[HQ2.o];exact⟨_,_,b,c,rfl,gI (Below.drewN HB2.o _),HPL.o.below (Below.drewN HB2.o _),by rw[qD p (by decide)];rfl,by decide⟩
end Go.Proofs.YtbmkaekimccdgaaGreatDoor
