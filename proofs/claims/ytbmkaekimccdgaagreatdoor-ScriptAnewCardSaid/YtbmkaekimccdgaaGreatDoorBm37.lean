/- Lemmas. -/
import Derived.Test.YtbmkaekimccdgaaGreatDoorBm34
import Derived.Test.YtbmkaekimccdgaaGreatDoorBm36
set_option maxHeartbeats 16000000
set_option maxRecDepth 1000000
set_option linter.all false
namespace Go.Proofs.YtbmkaekimccdgaaGreatDoor
open Go.RowKit Go.Sort Go.Shelf Stl
def qFU (p:Nat→Addr)(base:Nat)(x:Except Nat Nd)(ev:Ending)(w':World):Prop :=
 ∃ (a0 a1:ByteArray) (a2:Bool) (A:Option Addr) (m cp:Nat) (er:Value),ev=.returned (.tuple #[.agg #[.string a0,.string a1,.bool a2,.slice A m cp],er]) ∧
  match x with
  | .error c=>er=jK p c∧c≠0
  | .ok nd=>er=.nilIface∧NodeP (fun b=>base≤b) w' nd [.string a0,.string a1,.bool a2,.slice A m cp]
section
variable {p:Nat→Addr}
theorem qJm (s:List UInt8)(hs:s.length≤4000000)(w:World)(hE:Errs w p)(hV:LibVars w) :
  Calls Tryz.prog 119 #[.string ⟨s.toArray⟩] w fun ev w'=>Below w.heap.size w w'∧qFU p w.heap.size (vP s) ev w':=by
 obtain⟨r,hr⟩:∃ r,r=w.heap.size+1:=⟨_,rfl⟩;have hrw:w.heap.size<r:=by omega
 have hrw2:w.heap.size≤r:=by omega
 have HRR:=Hh hr;have hba:Below w.heap.size w (w.alloc (.cells #[.string ⟨#[]⟩,.string ⟨#[]⟩,.bool false,.slice none 0 0] 134)):=(zB _ w).alloc (zo _) _;have HEW:=Hh (show RdEnv w r p from ⟨w,hE,hV,zB _ _,hrw2⟩);by_cases hl:20000<s.length
 ·have HX:=Hh (show vP s=.error 2 by unfold vP;rw[zM1 hl]);have i1:(20000:Int)<(s.length:Int):=by omega
  have HZ1:=Hh (zK1 w (.cells #[.string ⟨#[]⟩,.string ⟨#[]⟩,.bool false,.slice none 0 0] 134));have HE1:=Hh (jY (r:=r) hba);have HV1:=Hh (HEW.o.below hba);clear hl hba hE hV hr;go_enter Tryz.func119,Tryz.ntmps119;go_upto_region 2 with fail;generalize w.alloc (.cells #[.string ⟨#[]⟩,.string ⟨#[]⟩,.bool false,.slice none 0 0] 134)=w1 at *;obtain⟨z0,z1,z2,z3⟩:=cq HZ1.o;have f0:w1.frozen? ⟨w.heap.size,0,none⟩=false:=qC HZ1.o 0;have f1:w1.frozen? ⟨w.heap.size,1,none⟩=false:=qC HZ1.o 1;have f2:w1.frozen? ⟨w.heap.size,2,none⟩=false:=qC HZ1.o 2;have f3:w1.frozen? ⟨w.heap.size,3,none⟩=false:=qC HZ1.o 3;have hg:w1.cell? ⟨0,0,none⟩=some (.iface 376 (.pointer (some (p 2)))):=HV1.o.errs.cell 2 (by decide) (by decide);have hgne:w.heap.size≠0:=by
   have h0:=lt_of_cell (HEW.o.errs.cell 2 (by decide) (by decide));simp[wA] at h0;omega
  have hgne':0≠w.heap.size:=hgne.symm
  go_region
  obtain⟨w9,E9,HF,HEF⟩:=wM HZ1.o HE1.o (fun h=>absurd h (zr w.heap.size)) (.string ⟨#[]⟩) (.string ⟨#[]⟩) (.bool false) (.slice none 0 0);clear z0 z1 z2 z3 f0 f1 f2 f3 hg hgne hgne';go_wp2_with fail;rw[E9.o];obtain⟨r0,r1,r2,r3⟩:=cq HF.o;refine zH1 (v:=.tuple #[.agg #[.string ⟨#[]⟩,.string ⟨#[]⟩,.bool false,.slice none 0 0],.iface 376 (.pointer (some (p 2)))]) ?_ rfl ⟨HEF.o.below (zo _) (fun b hb=>by rw[vG (by omega)];rfl),?_⟩
  ·simp[results,Tryz.results119,go_sem,r0,r1,r2,r3]
  ·rw[HX.o];exact⟨_,_,_,_,_,_,_,rfl,(qD p (by decide)).symm,by decide⟩
 have i1:¬ (20000:Int)<(s.length:Int):=by omega
 have hl2:s.length≤20000:=by omega
 have HL:=Hh hl;have hbb:Below w.heap.size w ((w.alloc (.cells #[.string ⟨#[]⟩,.string ⟨#[]⟩,.bool false,.slice none 0 0] 134)).alloc (.cells #[.string ⟨s.toArray⟩,.int .i64 0] 266)):=hba.alloc (by simp) _;have HZ1:=Hh (qS (w.alloc (.cells #[.string ⟨#[]⟩,.string ⟨#[]⟩,.bool false,.slice none 0 0] 134)) (.cells #[.string ⟨s.toArray⟩,.int .i64 0] 266) (zK1 w (.cells #[.string ⟨#[]⟩,.string ⟨#[]⟩,.bool false,.slice none 0 0] 134)));have HR1:=Hh (show RdAt ((w.alloc (.cells #[.string ⟨#[]⟩,.string ⟨#[]⟩,.bool false,.slice none 0 0] 134)).alloc (.cells #[.string ⟨s.toArray⟩,.int .i64 0] 266)) r s 0 from by
  have:=zK1 (w.alloc (.cells #[.string ⟨#[]⟩,.string ⟨#[]⟩,.bool false,.slice none 0 0] 134)) (.cells #[.string ⟨s.toArray⟩,.int .i64 0] 266)
  rw[hr]
  simpa[RdAt] using this)
 have HE1:=Hh (jY (r:=r) hbb);have HV1:=Hh (HEW.o.below hbb);have HND:=Hh (qG9 (p:=p) 9 0 (by rfl) r s 0 _ HR1.o HV1.o hl2 (by omega));have hsz1:((w.alloc (.cells #[.string ⟨#[]⟩,.string ⟨#[]⟩,.bool false,.slice none 0 0] 134)).alloc (.cells #[.string ⟨s.toArray⟩,.int .i64 0] 266)).heap.size=w.heap.size+2:=by simp
 have hr3:w.heap.size+1=r:=hr.symm;clear hl hba hbb hE hV hl2 hr;go_enter Tryz.func119,Tryz.ntmps119;go_upto_region 4 with fail
 try rw[hr3]
 generalize (w.alloc (.cells #[.string ⟨#[]⟩,.string ⟨#[]⟩,.bool false,.slice none 0 0] 134)).alloc (.cells #[.string ⟨s.toArray⟩,.int .i64 0] 266)=w1 at *;have HS1:=Hh hsz1;clear hsz1 hr3;go_upto_region 5 with (go_at_call 170;refine HND.o.mono ?_;rintro ev w2 ⟨he2,a0,a1,a2,A5,m5,cp5,er,rfl,hm⟩;have HE2:=Hh he2;have HM:=Hh hm;clear he2 hm);have hz2:=HE2.o.size;have hb3:=(zB w2.heap.size w2).alloc (zo _) (.cells #[.string a0,.string a1,.bool a2,.slice A5 m5 cp5] 134);have HB3:=Hh hb3;have HE3:=Hh ((HE1.o.trans HE2.o).trans (jY hb3));have HV3:=Hh ((HV1.o.ext HE2.o).below hb3);have HZ3:=Hh ((hb3.block _ (by have:=HS1.o;omega)).trans (HE2.o.kept HZ1.o (vG (by omega)) rfl).1);have H53:=Hh (zK1 w2 (.cells #[.string a0,.string a1,.bool a2,.slice A5 m5 cp5] 134));have hb5:w.heap.size+2≤w2.heap.size:=by have:=HS1.o;omega
 have hr5:r<w2.heap.size:=by have:=HRR.o;omega
 have HS3:=Hh (show (w2.alloc (.cells #[.string a0,.string a1,.bool a2,.slice A5 m5 cp5] 134)).heap.size=w2.heap.size+1 by simp);clear hb3 hz2;generalize w2.alloc (.cells #[.string a0,.string a1,.bool a2,.slice A5 m5 cp5] 134)=w3 at *;generalize hb:w2.heap.size=b5 at *;have HB5:=Hh hb;clear hb
 cases hrd:jM 9 s 0 with
 | error cd =>
  have HX:=Hh (show vP s=.error cd by unfold vP;rw[zL1 HL.o,hrd]);have hm:=HM.o;rw[hrd] at hm;obtain⟨rfl,hcd⟩:=hm;have HCD:=Hh hcd;have HEO:=Hh (qD p hcd);rw[HEO.o];clear hrd hcd HM;obtain⟨z0,z1,z2,z3⟩:=cq HZ3.o;have f0:w3.frozen? ⟨w.heap.size,0,none⟩=false:=qC HZ3.o 0;have f1:w3.frozen? ⟨w.heap.size,1,none⟩=false:=qC HZ3.o 1;have f2:w3.frozen? ⟨w.heap.size,2,none⟩=false:=qC HZ3.o 2;have f3:w3.frozen? ⟨w.heap.size,3,none⟩=false:=qC HZ3.o 3;go_wp2_with fail;obtain⟨w9,E9,HF,HEF⟩:=mS HZ3.o HE3.o (fun h=>absurd h (zr w.heap.size)) (.string ⟨#[]⟩) (.string ⟨#[]⟩) (.bool false) (.slice none 0 0);clear z0 z1 z2 z3 f0 f1 f2 f3;rw[E9.o];obtain⟨r0,r1,r2,r3⟩:=cq HF.o;refine zH1 (v:=.tuple #[.agg #[.string ⟨#[]⟩,.string ⟨#[]⟩,.bool false,.slice none 0 0],.iface 376 (.pointer (some (p cd)))]) ?_ rfl ⟨HEF.o.below (zo _) (fun b hb=>by rw[vG (by omega)];rfl),?_⟩
  ·simp[results,Tryz.results119,go_sem,r0,r1,r2,r3]
  ·rw[HX.o];exact⟨_,_,_,_,_,_,_,rfl,HEO.o.symm,HCD.o⟩
 | ok q =>
  obtain⟨nd,s',n'⟩:=q;have HX1:=Hh (show vP s=if s'≠[] then .error 1 else if treeErr nd=0 then .ok nd else .error (treeErr nd) by unfold vP;rw[zL1 HL.o,hrd]);have hm:=HM.o;rw[hrd] at hm;obtain⟨rfl,hr2,hn2⟩:=hm;have HR3:=Hh (show RdAt w3 r s' n' from (HB3.o.block r hr5).trans hr2);have HN3:=Hh (NodeP.go (Q:=fun b=>w.heap.size+2≤b) HB3.o.size (fun b hb hp=>⟨HB3.o.block b (by have:=HB5.o;omega),by have:=HS1.o;omega⟩) _ _ hn2);have c0:=ce0 HR3.o;clear hrd hn2 hr2 HM;by_cases hs':s'=[]
  case neg =>
   have HX:=Hh (show vP s=.error 1 from HX1.o.trans (by rw[zM1 hs']));have hne:(s'==[])=false:=by simpa using hs'
   have hne2:(s' != [])=true:=by simpa using hs'
   clear hs';obtain⟨z0,z1,z2,z3⟩:=cq HZ3.o;have f0:w3.frozen? ⟨w.heap.size,0,none⟩=false:=qC HZ3.o 0;have f1:w3.frozen? ⟨w.heap.size,1,none⟩=false:=qC HZ3.o 1;have f2:w3.frozen? ⟨w.heap.size,2,none⟩=false:=qC HZ3.o 2;have f3:w3.frozen? ⟨w.heap.size,3,none⟩=false:=qC HZ3.o 3;have hg:w3.cell? ⟨1,0,none⟩=some (.iface 376 (.pointer (some (p 1)))):=HV3.o.errs.cell 1 (by decide) (by decide);have hgne:w.heap.size≠1:=by
    have h0:=lt_of_cell (HEW.o.errs.cell 1 (by decide) (by decide));simp[wA] at h0;omega
   have hgne':1≠w.heap.size:=hgne.symm;have HEO:=Hh (qD p (show 1≠0 by decide));go_wp2_with fail;obtain⟨w9,E9,HF,HEF⟩:=mS HZ3.o HE3.o (fun h=>absurd h (zr w.heap.size)) (.string ⟨#[]⟩) (.string ⟨#[]⟩) (.bool false) (.slice none 0 0);clear z0 z1 z2 z3 f0 f1 f2 f3 hg hgne hgne';rw[E9.o];obtain⟨r0,r1,r2,r3⟩:=cq HF.o;refine zH1 (v:=.tuple #[.agg #[.string ⟨#[]⟩,.string ⟨#[]⟩,.bool false,.slice none 0 0],.iface 376 (.pointer (some (p 1)))]) ?_ rfl ⟨HEF.o.below (zo _) (fun b hb=>by rw[vG (by omega)];rfl),?_⟩
   ·simp[results,Tryz.results119,go_sem,r0,r1,r2,r3]
   ·rw[HX.o];exact⟨_,_,_,_,_,_,_,rfl,HEO.o.symm,by decide⟩
  case pos =>
   subst hs';have HCK:=Hh (xV p nd _ w3 HV3.o.errs HN3.o.at);have hne:(([]:List UInt8)==[])=true:=rfl;obtain⟨y0,y1,y2,y3⟩:=cq H53.o;obtain⟨te,hte⟩:∃ te,te=treeErr nd:=⟨_,rfl⟩;rw[← hte] at HCK;have HTE:=Hh hte;clear hte;go_upto_region 9 with (go_at_call 99;refine HCK.o.mono ?_;rintro ev w4 ⟨rfl,hb4⟩;have HB4:=Hh hb4;clear hb4);have HZ4:=Hh ((HB4.o.block _ (qA HZ3.o)).trans HZ3.o);have H54:=Hh ((HB4.o.block _ (qA H53.o)).trans H53.o);have HE4:=Hh (HE3.o.trans (jY HB4.o));have HN4:=Hh (NodeP.go (Q:=fun b=>w.heap.size+2≤b) HB4.o.size (fun b hb hp=>⟨HB4.o.block b hb,hp⟩) _ _ HN3.o);clear y0 y1 y2 y3 c0 hne;by_cases h0:te=0
   ·subst h0;rw[xB];have HX:=Hh (show vP s=.ok nd from HX1.o.trans (by rw[zL1 (by simp),zM1 HTE.o.symm]));obtain⟨z0,z1,z2,z3⟩:=cq HZ4.o;have f0:w4.frozen? ⟨w.heap.size,0,none⟩=false:=qC HZ4.o 0;have f1:w4.frozen? ⟨w.heap.size,1,none⟩=false:=qC HZ4.o 1;have f2:w4.frozen? ⟨w.heap.size,2,none⟩=false:=qC HZ4.o 2;have f3:w4.frozen? ⟨w.heap.size,3,none⟩=false:=qC HZ4.o 3;obtain⟨y0,y1,y2,y3⟩:=cq H54.o;go_wp2_with fail;obtain⟨w9,E9,HF,HEF⟩:=mS HZ4.o HE4.o (fun h=>absurd h (zr w.heap.size)) (.string a0) (.string a1) (.bool a2) (.slice A5 m5 cp5);clear z0 z1 z2 z3 f0 f1 f2 f3 y0 y1 y2 y3;have HPO:=Hh (show NodeP (fun b=>w.heap.size≤b) w9 nd [.string a0,.string a1,.bool a2,.slice A5 m5 cp5] from by rw[← E9.o];exact NodeP.go (zo _) (fun b _ hp=>⟨rfl,by omega⟩) _ _ (NodeP.set4 (x:=w.heap.size) (u0:=.string a0) (u1:=.string a1) (u2:=.bool a2) (u3:=.slice A5 m5 cp5) HN4.o (fun b hb=>by omega)));rw[E9.o];obtain⟨r0,r1,r2,r3⟩:=cq HF.o;refine zH1 (v:=.tuple #[.agg #[.string a0,.string a1,.bool a2,.slice A5 m5 cp5],.nilIface]) ?_ rfl ⟨HEF.o.below (zo _) (fun b hb=>by rw[vG (by omega)];rfl),?_⟩
    ·simp[results,Tryz.results119,go_sem,r0,r1,r2,r3]
    ·rw[HX.o];exact⟨_,_,_,_,_,_,_,rfl,rfl,HPO.o⟩
   ·have HX:=Hh (show vP s=.error te from HX1.o.trans (by rw[zL1 (by simp),zL1 (by rw[← HTE.o];exact h0),HTE.o]));have HEO:=Hh (qD p h0);have HH0:=Hh h0;rw[HEO.o];clear h0;obtain⟨z0,z1,z2,z3⟩:=cq HZ4.o;have f0:w4.frozen? ⟨w.heap.size,0,none⟩=false:=qC HZ4.o 0;have f1:w4.frozen? ⟨w.heap.size,1,none⟩=false:=qC HZ4.o 1;have f2:w4.frozen? ⟨w.heap.size,2,none⟩=false:=qC HZ4.o 2;have f3:w4.frozen? ⟨w.heap.size,3,none⟩=false:=qC HZ4.o 3;go_wp2_with fail;obtain⟨w9,E9,HF,HEF⟩:=mS HZ4.o HE4.o (fun h=>absurd h (zr w.heap.size)) (.string ⟨#[]⟩) (.string ⟨#[]⟩) (.bool false) (.slice none 0 0);clear z0 z1 z2 z3 f0 f1 f2 f3;rw[E9.o];obtain⟨r0,r1,r2,r3⟩:=cq HF.o;refine zH1 (v:=.tuple #[.agg #[.string ⟨#[]⟩,.string ⟨#[]⟩,.bool false,.slice none 0 0],.iface 376 (.pointer (some (p te)))]) ?_ rfl ⟨HEF.o.below (zo _) (fun b hb=>by rw[vG (by omega)];rfl),?_⟩
    ·simp[results,Tryz.results119,go_sem,r0,r1,r2,r3]
    ·rw[HX.o];exact⟨_,_,_,_,_,_,_,rfl,HEO.o.symm,HH0.o⟩
end
def RwIn (w5 wx:World)(A:Option Addr)(cp:Nat)(rf:List (List UInt8)):Prop:=wx.ownsRow w5.heap.size 9 1 (.slice A rf.length cp) rf.length (rf.map encStr)∧Below w5.heap.size w5 wx
theorem qOz {w:World}{c:Nat→Col}{base:Nat}{A:Option Addr}{cap:Nat}{l:List (List UInt8)}(h:w.ownsRow base 9 1 (.slice A l.length cap) l.length (l.map encStr))(hc:∀ k,base≤k→c k=.ro):RoStrs w c A l:=fun hn=>by
 have h0:0<l.length:=List.length_pos_iff.2 hn
 rcases h.2 with ⟨e,h1⟩ | ⟨g,cp,cur,e,h2,h3,_⟩
 ·omega
 ·injection e with e1 e2 e3
  subst e1;refine⟨g,0,rfl,qA h3,hc g h2,fun j x hx=>?_⟩;have hj:=(zM.1 hx).1;rw[zv,h.cellAt j (by omega),zN,hx];rfl
def qNE (s:Sto)(rest:List UInt8):Except Nat (List UInt8×Sto):=(s.add rest).map fun x=>(bOk,x)
section
variable {w:World}{A:Option Addr}{zs:List PkX}{c:Nat→Col}{b:Nat}{s:Sto}{bd:Nat}{cap:Nat}{R:Option Addr}{rc tp:Nat}{p:Nat→Addr}
theorem qNF (h:StoX w c b s bd A cap zs R rc tp)(hg:vB s)(hE:Env w c p)(rest:List UInt8)(hr:rest.length≤1000000) :
  Calls Tryz.prog 73 #[.pointer (some ⟨b,0,none⟩),.string ⟨rest.toArray⟩] w (ChPost p w c b tp (qNE s rest)):=by
 have hfew:=h.few hg.ok;have H:=Hh h;have HG:=Hh hg;have HE:=Hh hE;have HAO:=Hh (show qNE s rest=(s.add rest).map fun x=>(bOk,x) from rfl);generalize qNE s rest=res at HAO ⊢;obtain⟨sa,hsa⟩:∃ sa,sa=s.add rest:=⟨_,rfl⟩;rw[← hsa] at HAO;unfold Sto.add at hsa;have HTXT:=Hh (hE.errs.cell 1 (by decide) (by decide));clear h hg hE
 cases hc:cutAt 32 rest with
 | none =>
  rw[hc] at hsa;simp only at hsa;have HRS:=Hh (show res=.error 1 by rw[HAO.o,hsa];rfl);have HCUT:=Hh (pS 32 hc (by omega) w HE.o.max);clear hc hsa;go_enter Tryz.func73,Tryz.ntmps73;go_upto_region 3 with (go_at_call 72;refine HCUT.o.mono ?_;rintro ev w1 ⟨rfl,hb1⟩;have HB1:=Hh hb1;clear hb1);have hg:w1.cell? ⟨1,0,none⟩=some (.iface 376 (.pointer (some (p 1)))):=((HE.o.errs.later HB1.o).cell 1 (by decide) (by decide)).trans (by rw[qD p (by decide)]);go_quiet (fail);go_wp2;go_ret2;rw[HRS.o];exact⟨_,_,c,rfl,Ext.of_below (Below.drewN HB1.o _) c mU,by rw[qD p (by decide)];rfl,by decide⟩
 | some q =>
  obtain⟨name,text⟩:=q;rw[hc] at hsa;simp only at hsa;have hnl:=nC 32 hc;have HCUT:=Hh (gU 32 hc (by omega) w HE.o.max);have HNM:=Hh (fun W:World=>gD name W (by omega));clear hc;go_enter Tryz.func73,Tryz.ntmps73;go_upto_region 4 with (go_at_call 72;refine HCUT.o.mono ?_;rintro ev w1 ⟨rfl,hb1⟩;have HB1:=Hh hb1;clear hb1)
  cases hnm:isName name with
  | false =>
   rw[hnm] at HNM;rw[hnm,zM1 rfl] at hsa;have HRS:=Hh (show res=.error 5 by rw[HAO.o,hsa];rfl);clear hnm hsa;go_upto_region 5 with (go_at_call 103;refine(HNM.o _).mono ?_;rintro ev w2 ⟨rfl,hb2⟩;have HB2:=Hh (HB1.o.trans (hb2.mono HB1.o.size));clear hb2);have hg:w2.cell? ⟨4,0,none⟩=some (.iface 376 (.pointer (some (p 5)))):=((HE.o.errs.later HB2.o).cell 5 (by decide) (by decide)).trans (by rw[qD p (by decide)]);go_quiet (fail);go_wp2;go_ret2;rw[HRS.o];exact⟨_,_,c,rfl,Ext.of_below (Below.drewN HB2.o _) c mU,by rw[qD p (by decide)];rfl,by decide⟩
  | true =>
   rw[hnm] at HNM;rw[hnm,zL1 (by decide)] at hsa;have HISN:=Hh hnm;clear hnm;go_upto_region 6 with (go_at_call 103;refine(HNM.o _).mono ?_;rintro ev w2 ⟨rfl,hb2⟩;have HB2:=Hh (HB1.o.trans (hb2.mono HB1.o.size));clear hb2);have HFD:=Hh (gR (H.o.below HB2.o) (by omega) name)
   cases hf:s.find name with
   | some pk =>
    rw[hf,zM1 (show (some pk).isSome=true from rfl)] at hsa;have HRS:=Hh (show res=.error 7 by rw[HAO.o,hsa];rfl);have HF:=Hh hf;clear hf hsa;go_upto_region 7 with (go_at_call 97;refine HFD.o.mono ?_;rintro ev w3 ⟨⟨i,rfl,hi⟩,hb3⟩;obtain⟨ki,hki,rfl,_⟩:=hi.some_ H.o.eq HG.o.ok.pks.names HF.o;have HB3:=Hh (HB2.o.trans (hb3.mono HB2.o.size));clear hb3 hi);have hg:w3.cell? ⟨6,0,none⟩=some (.iface 376 (.pointer (some (p 7)))):=((HE.o.errs.later HB3.o).cell 7 (by decide) (by decide)).trans (by rw[qD p (by decide)]);go_quiet (fail);go_wp2;go_ret2;rw[HRS.o];exact⟨_,_,c,rfl,Ext.of_below (Below.drewN HB3.o _) c mU,by rw[qD p (by decide)];rfl,by decide⟩
   | none =>
    rw[hf,zL1 (show ¬ (none:Option Pk).isSome=true by decide)] at hsa;have HF:=Hh hf;clear hf;go_upto_region 8 with (go_at_call 97;refine HFD.o.mono ?_;rintro ev w3 ⟨⟨i,rfl,hi⟩,hb3⟩;have hneg:=(hi.none_ H.o.eq).1 HF.o;have HB3:=Hh (HB2.o.trans (hb3.mono HB2.o.size));clear hb3 hi);have HX3:=Hh (H.o.below HB3.o);have c1:=ce1 HX3.o.own;have hlen:=H.o.len;by_cases h40:40≤s.l.length
    ·rw[zM1 h40] at hsa;have HRS:=Hh (show res=.error 8 by rw[HAO.o,hsa];rfl);have i1:(40:Int)≤(zs.length:Int):=by omega
     clear hsa hlen h40;go_upto_region 9 with fail;have hg:w3.cell? ⟨7,0,none⟩=some (.iface 376 (.pointer (some (p 8)))):=((HE.o.errs.later HB3.o).cell 8 (by decide) (by decide)).trans (by rw[qD p (by decide)]);clear c1;go_quiet (fail);go_wp2;go_ret2;rw[HRS.o];exact⟨_,_,c,rfl,Ext.of_below (Below.drewN HB3.o _) c mU,by rw[qD p (by decide)];rfl,by decide⟩
    ·rw[zL1 h40] at hsa;have i1:¬ (40:Int)≤(zs.length:Int):=by omega
     have HPR:=Hh (qJm (p:=p) text (by omega) w3 (HE.o.errs.later HB3.o) (HE.o.vars.later HB3.o));have HLEN:=Hh hlen;have H40:=Hh h40;clear hlen h40;unfold qFU at HPR
     cases hrt:vP text with
     | error cd =>
      rw[hrt] at hsa HPR;simp only at hsa HPR;have HRS:=Hh (show res=.error cd by rw[HAO.o,hsa];rfl);clear hrt hsa;go_upto_region 11 with (go_at_call 119;refine HPR.o.mono ?_;rintro ev w4 ⟨hb4,a0,a1,a2,A4,m4,cp4,er,rfl,rfl,hcd⟩;have HB4:=Hh (HB3.o.trans (hb4.mono HB3.o.size));have HEO:=Hh (qD p hcd);have HCD:=Hh hcd;clear hb4 hcd);rw[HEO.o];have HB5:=Hh (HB4.o.alloc HB4.o.size (.cells #[.string a0,.string a1,.bool a2,.slice A4 m4 cp4] 134));go_wp2_with fail;go_ret2;rw[HRS.o];exact⟨_,_,c,rfl,Ext.of_below HB5.o c mU,by rw[HEO.o];rfl,HCD.o⟩
     | ok nd =>
      rw[hrt] at hsa HPR;simp only at hsa HPR;clear hrt;go_upto_region 13 with (go_at_call 119;refine HPR.o.mono ?_;rintro ev w4 ⟨hb4,a0,a1,a2,A4,m4,cp4,er,rfl,rfl,hn4⟩;have HB34:=Hh hb4;have HB4:=Hh (HB3.o.trans (hb4.mono HB3.o.size));have HN4:=Hh hn4;clear hb4 hn4);have hb5:=(zB w4.heap.size w4).alloc (zo _) (.cells #[.string a0,.string a1,.bool a2,.slice A4 m4 cp4] 134);have HY5:=Hh (zK1 w4 (.cells #[.string a0,.string a1,.bool a2,.slice A4 m4 cp4] 134));have HB45:=Hh hb5;have HB5:=Hh (HB4.o.alloc HB4.o.size (.cells #[.string a0,.string a1,.bool a2,.slice A4 m4 cp4] 134));have HB35:=Hh (HB34.o.trans (hb5.mono HB34.o.size));clear hb5 c1;generalize w4.alloc (.cells #[.string a0,.string a1,.bool a2,.slice A4 m4 cp4] 134)=w5 at *;have HX5:=Hh (H.o.below HB5.o);have HNS:=Hh (fun (W:World) (hb:Below w5.heap.size w5 W)=>qDA (HX5.o.below hb) (by omega));have hlt5:=qA HY5.o;obtain⟨q0,q1,q2,q3⟩:=cq HY5.o;have HNE:=Hh (show s.l.map (·.name)=zs.map (·.p.name) by rw[← H.o.eq,zW];rfl);rw[HNE.o] at hsa;have hnml:(zs.map (·.p.name)).length=zs.length:=zT _;have HSA:=Hh hsa;clear hsa;generalize hns:zs.map (·.p.name)=ns at *;clear hns;have HREF:=Hh (fun (W:World) (v:Value) (hb:Below w5.heap.size w5 W) (hs:Strs W v (ns++[name]))=>(qLp p nd [.string a0,.string a1,.bool a2,.slice A4 m4 cp4] v (ns++[name]) (by simp;omega) W (HE.o.errs.later (HB5.o.trans (hb.mono HB5.o.size))) (NodeAt.later (HB45.o.trans (hb.mono HB45.o.size)) _ _ (NodeP.at _ _ HN4.o)) hs:Calls Tryz.prog 120 #[.agg #[.string a0,.string a1,.bool a2,.slice A4 m4 cp4],v] W _));generalize refsIn nd (ns++[name])=rf at HREF HSA;obtain⟨i0,hi,hz0,hz1,hz2⟩:=pO;have Hi:=Hh hi;have Hz0:=Hh hz0;have Hz1:=Hh hz1;have Hz2:=Hh hz2;clear hi hz0 hz1 hz2;have hd1:=(zB w5.heap.size w5).drew;have hd2:=((zB w5.heap.size w5).alloc (zo _) (.cells #[.string ⟨name.toArray⟩] 9)).drew;have HHD:=Hh hd1;have HHA:=Hh hd2;have HNC:=Hh (show (w5.alloc (.cells #[.string ⟨name.toArray⟩] 9)).drew.cell? ⟨w5.heap.size,0,none⟩=some (.string ⟨name.toArray⟩) from zJ1 _ _ 0 _ _ _ (zK1 w5 (.cells #[.string ⟨name.toArray⟩] 9)));have hnl2:ns.length≤40:=by omega
      clear hnml hd1 hd2
      go_cut [11] (fun v wx=>∃ (A9:Option Addr) (cp9:Nat),v=.slice A9 rf.length cp9∧Hg (RwIn w5 wx A9 cp9 rf))
      case first =>
       have s0:=q0;have s1:=q1;have s2:=q2;have s3:=q3;have r0:(w5.alloc (.cells #[.string ⟨name.toArray⟩] 9)).drew.cell? ⟨w4.heap.size,0,none⟩=some (.string a0):=(HHA.o.cell (p:=⟨w4.heap.size,0,none⟩) hlt5).trans q0;have r1:(w5.alloc (.cells #[.string ⟨name.toArray⟩] 9)).drew.cell? ⟨w4.heap.size,1,none⟩=some (.string a1):=(HHA.o.cell (p:=⟨w4.heap.size,1,none⟩) hlt5).trans q1;have r2:(w5.alloc (.cells #[.string ⟨name.toArray⟩] 9)).drew.cell? ⟨w4.heap.size,2,none⟩=some (.bool a2):=(HHA.o.cell (p:=⟨w4.heap.size,2,none⟩) hlt5).trans q2;have r3:(w5.alloc (.cells #[.string ⟨name.toArray⟩] 9)).drew.cell? ⟨w4.heap.size,3,none⟩=some (.slice A4 m4 cp4):=(HHA.o.cell (p:=⟨w4.heap.size,3,none⟩) hlt5).trans q3
       go_region_law
        (first
         | (refine Stl.step_app _ (by rfl) (.tmp 52) (.tmp 54) 22 (by rfl) w5.heap.size 9 i0 (.string ByteArray.empty) 1 16 Tryz.underlying22 Hi.o Hz0.o Hz1.o Hz2.o rfl (by decide) (.slice A6 ns.length cp6) ns.length (ns.map encStr) (by rfl) HO7.o (some ⟨w6.heap.size,0,none⟩) 1 1 [.string ⟨name.toArray⟩] (by rfl) (by simp) (fun h=>by cases h) (jD _ _ _) (by simp[Value.oneCell']) (by unfold maxLen;omega) (by omega) (zq HB56.o.size (by simp)) ?_;intro A8 cp8 w8 hown8 hgr8 _;have hb8:Below w5.heap.size w5 w8:=(HB56.o.alloc HB56.o.size _).grown hgr8 (zq HB56.o.size (by simp)) (fun k hk=>(HO7.o.lt k hk).1);have HB58:=Hh hb8;have HO8:=Hh hown8;clear hown8 hgr8;have s0:=(hb8.cell (p:=⟨w4.heap.size,0,none⟩) hlt5).trans q0;have s1:=(hb8.cell (p:=⟨w4.heap.size,1,none⟩) hlt5).trans q1;have s2:=(hb8.cell (p:=⟨w4.heap.size,2,none⟩) hlt5).trans q2;have s3:=(hb8.cell (p:=⟨w4.heap.size,3,none⟩) hlt5).trans q3;clear hb8)
         | (refine Stl.step_app _ (by rfl) (.tmp 52) (.tmp 54) 22 (by rfl) w5.heap.size 9 i0 (.string ByteArray.empty) 1 16 Tryz.underlying22 Hi.o Hz0.o Hz1.o Hz2.o rfl (by decide) (.slice A6 ns.length cp6) ns.length (ns.map encStr) (by rfl) HO6.o (some ⟨w5.heap.size,0,none⟩) 1 1 [.string ⟨name.toArray⟩] (by rfl) (by simp) (fun h=>by cases h) (fun ad ha j u hu=>by { injection ha with ha;have hj:j=0:=(by have:=(zM.1 hu).1;simpa using this);subst hj;have hu2:u=.string ⟨name.toArray⟩:=(by simpa using hu.symm);rw[← ha,hu2];exact HNC6.o }) (by simp[Value.oneCell']) (by unfold maxLen;omega) (by omega) HB56.o.size ?_;intro A8 cp8 w8 hown8 hgr8 _;have hb8:Below w5.heap.size w5 w8:=HB56.o.grown hgr8 HB56.o.size (fun k hk=>(HO6.o.lt k hk).1);have HB58:=Hh hb8;have HO8:=Hh hown8;clear hown8 hgr8;have s0:=(hb8.cell (p:=⟨w4.heap.size,0,none⟩) hlt5).trans q0;have s1:=(hb8.cell (p:=⟨w4.heap.size,1,none⟩) hlt5).trans q1;have s2:=(hb8.cell (p:=⟨w4.heap.size,2,none⟩) hlt5).trans q2;have s3:=(hb8.cell (p:=⟨w4.heap.size,3,none⟩) hlt5).trans q3;clear hb8)
         | (go_simp;go_at_call 121;refine(HNS.o _ HHD.o).mono ?_;rintro ev w6 ⟨A6,cp6,rfl,hr6,hb6'⟩;have hb6:Below w5.heap.size w5 w6:=HHD.o.trans hb6';clear hb6';have HB56:=Hh hb6;have HO6:=Hh (show w6.ownsRow w5.heap.size 9 1 (.slice A6 ns.length cp6) ns.length (ns.map encStr) from hr6);have HO7:=Hh (HO6.o.alloc (.cells #[.string ⟨name.toArray⟩] 9));have s0:=(hb6.cell (p:=⟨w4.heap.size,0,none⟩) hlt5).trans q0;have s1:=(hb6.cell (p:=⟨w4.heap.size,1,none⟩) hlt5).trans q1;have s2:=(hb6.cell (p:=⟨w4.heap.size,2,none⟩) hlt5).trans q2;have s3:=(hb6.cell (p:=⟨w4.heap.size,3,none⟩) hlt5).trans q3;have hb6a:Below w5.heap.size w5 (w6.alloc (.cells #[.string ⟨name.toArray⟩] 9)):=hb6.alloc hb6.size _;have t0:(w6.alloc (.cells #[.string ⟨name.toArray⟩] 9)).cell? ⟨w4.heap.size,0,none⟩=some (.string a0):=(hb6a.cell (p:=⟨w4.heap.size,0,none⟩) hlt5).trans q0;have t1:(w6.alloc (.cells #[.string ⟨name.toArray⟩] 9)).cell? ⟨w4.heap.size,1,none⟩=some (.string a1):=(hb6a.cell (p:=⟨w4.heap.size,1,none⟩) hlt5).trans q1;have t2:(w6.alloc (.cells #[.string ⟨name.toArray⟩] 9)).cell? ⟨w4.heap.size,2,none⟩=some (.bool a2):=(hb6a.cell (p:=⟨w4.heap.size,2,none⟩) hlt5).trans q2;have t3:(w6.alloc (.cells #[.string ⟨name.toArray⟩] 9)).cell? ⟨w4.heap.size,3,none⟩=some (.slice A4 m4 cp4):=(hb6a.cell (p:=⟨w4.heap.size,3,none⟩) hlt5).trans q3;clear hr6 hb6 hb6a)
         | (go_simp;go_at_call 121;refine(HNS.o _ HHA.o).mono ?_;rintro ev w6 ⟨A6,cp6,rfl,hr6,hb6'⟩;have hb6:Below w5.heap.size w5 w6:=HHA.o.trans (hb6'.mono HHA.o.size);have HNC6:=Hh ((hb6'.cell (p:=⟨w5.heap.size,0,none⟩) (by simp)).trans HNC.o);clear hb6';have HB56:=Hh hb6;have HO6:=Hh (show w6.ownsRow w5.heap.size 9 1 (.slice A6 ns.length cp6) ns.length (ns.map encStr) from hr6.mono (by simp));have s0:=(hb6.cell (p:=⟨w4.heap.size,0,none⟩) hlt5).trans q0;have s1:=(hb6.cell (p:=⟨w4.heap.size,1,none⟩) hlt5).trans q1;have s2:=(hb6.cell (p:=⟨w4.heap.size,2,none⟩) hlt5).trans q2;have s3:=(hb6.cell (p:=⟨w4.heap.size,3,none⟩) hlt5).trans q3;clear hr6 hb6)
         | (go_simp;go_at_call 120;refine(HREF.o w8 _ HB58.o (by have h8:=HO8.o;exact vF (n:=ns.length+1) (base:=w5.heap.size) (by simpa using h8))).mono ?_;rintro ev w9 ⟨A9,cp9,rfl,hr9,hb9⟩;have HR9:=Hh hr9;have HB89:=Hh hb9;clear hr9 hb9)
         | fail)
       all_goals
        have HFIN:=Hh (show RwIn w5 w9 A9 cp9 rf from ⟨HR9.o.mono HB58.o.size,HB58.o.trans (HB89.o.mono HB58.o.size)⟩);clear s0 s1 s2 s3 q0 q1 q2 q3;go_wp2;go_meet
        case rel=>exact⟨A9,cp9,rfl,HFIN⟩
      case rest =>
       obtain⟨A9,cp9,rfl,HFIN⟩:=hcut;have HBC:=Hh (HB5.o.trans (HFIN.o.2.mono HB5.o.size));have hbnw:=HB45.o.trans (HFIN.o.2.mono HB45.o.size);have HNB:=Hh ((HFIN.o.2.block _ hlt5).trans HY5.o);have hE8:=hbnw;obtain⟨c8,hc8⟩:∃ c8:Nat→Col,c8=fun k=>if k<w.heap.size then c k else .ro:=⟨_,rfl⟩
       have he8:Ext w wc c c8 S0:=(Ext.of_below HBC.o c S0).recolor fun k hk _=>by { rw[hc8];exact zM1 hk }
       have hhi:∀ k,w.heap.size≤k→c8 k=.ro:=fun k hk=>by { rw[hc8];exact zL1 (Nat.not_lt.2 hk) }
       have HN8:=Hh (show RoNode wc c8 nd _ from NodeP.go hbnw.size (fun k hk hO=>⟨hbnw.block k hk,hhi k (zq HB3.o.size hO)⟩) _ _ HN4.o);have HR8:=Hh (show RoStrs wc c8 A9 rf from qOz HFIN.o.1 (fun k hk=>hhi k (zq HB5.o.size hk)));have HCP:=Hh (yG HFIN.o.1);have HE8:=Hh he8;have HX8:=Hh (H.o.ext he8 rfl (fun _ _=>rfl));have HEN:=Hh (HE.o.ext he8 rfl);clear hc8 he8 hhi hbnw hE8 q0 q1 q2 q3 HCUT HNM HFD HNS HREF HHD HHA HNC HFIN;by_cases h20:20<rf.length
       ·have HRS:=Hh (show res=.error 8 by rw[HAO.o,HSA.o,zM1 h20];rfl);have j1:(20:Int)<(rf.length:Int):=by omega
        clear h20;go_upto_region 15 with fail;have hg:wc.cell? ⟨7,0,none⟩=some (.iface 376 (.pointer (some (p 8)))):=(HEN.o.errs.cell 8 (by decide) (by decide)).trans (by rw[qD p (by decide)]);go_quiet (fail);go_wp2;go_ret2;rw[HRS.o];exact⟨_,_,c,rfl,Ext.of_below (Below.drewN HBC.o _) c mU,by rw[qD p (by decide)];rfl,by decide⟩
       ·have j1:¬ (20:Int)<(rf.length:Int):=by omega
        have HSB:=Hh (HSA.o.trans (zL1 h20));clear h20 HSA;go_upto_region 16 with fail;have c0:=ce0 HX8.o.own;obtain⟨q0,q1,q2,q3⟩:=cq HNB.o
        cases hput:s.d.put nd with
        | error cd =>
         rw[hput] at HSB;have HRS:=Hh (show res=.error cd by rw[HAO.o,HSB.o];rfl);have HPB:=Hh (fun (W:World) (hb:Below wc.heap.size wc W)=>qNw (HX8.o.below hb).dirs HG.o.good (HEN.o.below hb) (NodeAt.later hb _ _ (NodeP.at _ _ HN8.o)) hput);clear hput;have hdr:=(zB wc.heap.size wc).drew;have HDR:=Hh hdr;clear hdr
         go_region_law
          (first
           | (go_simp;go_at_call 122;refine(HPB.o _ (zB _ _)).mono ?_;rintro ev w6 ⟨rfl,hcd,hb6⟩;have HB6:=Hh hb6;have HCD:=Hh hcd;have HEO:=Hh (qD p hcd);clear hb6 hcd)
           | (go_simp;go_at_call 122;refine(HPB.o _ HDR.o).mono ?_;rintro ev w6 ⟨rfl,hcd,hb6'⟩;have hb6:Below wc.heap.size wc w6:=HDR.o.trans hb6';clear hb6';have HB6:=Hh hb6;have HCD:=Hh hcd;have HEO:=Hh (qD p hcd);clear hb6 hcd)
           | fail)
         all_goals
          rw[HEO.o];clear c0 q0 q1 q2 q3;go_wp2;go_ret2;rw[HRS.o];exact⟨_,_,c,rfl,Ext.of_below (HBC.o.trans (HB6.o.mono HBC.o.size)) c mU,by rw[HEO.o];rfl,HCD.o⟩
        | ok q =>
         obtain⟨kk,d'⟩:=q;rw[hput] at HSB;have HRS:=Hh (show res=.ok (bOk,{ d:=d',l:=s.l++[⟨name,rf,kk⟩],roots:=s.roots }) by rw[HAO.o,HSB.o];rfl);have HPB:=Hh (fun (W:World) (hb:Below wc.heap.size wc W)=>qOk (HX8.o.below hb).dirs HG.o.good HG.o.room (HEN.o.below hb) (HN8.o.ext (Ext.of_below hb c8 S0) rfl) hput);clear hput;have hdr:=(zB wc.heap.size wc).drew;have HDR:=Hh hdr;clear hdr;obtain⟨i1,hi,hz0,hz1,hz2⟩:=pC.info;have Hi1:=Hh hi;have Hy0:=Hh hz0;have Hy1:=Hh hz1;have Hy2:=Hh hz2;clear hi hz0 hz1 hz2
         go_region_law
          (first
           | (go_simp;go_at_call 122;refine(HPB.o _ (zB _ _)).mono ?_;rintro ev w6 ⟨rfl,c6,he6,hd6⟩;have HE6:=Hh he6;have HD6:=Hh hd6;clear he6 hd6)
           | (go_simp;go_at_call 122;refine(HPB.o _ HDR.o).mono ?_;rintro ev w6 ⟨rfl,c6,he6',hd6⟩;have he6:Ext wc w6 c8 c6 mN:=(Ext.of_below HDR.o c8 mN).trans he6';have HE6:=Hh he6;have HD6:=Hh hd6;clear he6 he6' hd6)
           | fail)
         all_goals
          have HX6:=Hh (HX8.o.redirs HE6.o HD6.o);have HR6:=Hh (HR8.o.ext HE6.o rfl);clear c0 q0 q1 q2 q3;have c1:=ce1 HX6.o.own;have HRK:=Hh (HX6.o.packs.1.alloc (.cells #[.string ⟨name.toArray⟩,.slice A9 rf.length cp9,.int .i64 kk] 150));go_wp2_with (at_builtin;refine Stl.wpList_app _ rfl (.tmp 77) (.tmp 82) 57 rfl 0 150 i1 (.agg #[.string ⟨#[]⟩,.slice none 0 0,.int .i64 0]) 3 48 Tryz.underlying57 Hi1.o Hy0.o Hy1.o Hy2.o rfl (by decide) (.slice A zs.length cap) zs.length (zs.flatMap yF) rfl HRK.o (some ⟨w6.heap.size,0,none⟩) 1 1 [.string ⟨name.toArray⟩,.slice A9 rf.length cp9,.int .i64 kk] rfl rfl (fun h=>by cases h) (jD _ _ _) (by simp[Value.oneCell']) (by unfold maxLen;omega) (by omega) (zw _) ?_;intro A7 cp7 w7 hown7 hgr7 hat7;obtain⟨hr7,he7⟩:=RowAt.grown (show RowAt (w6.alloc (.cells #[.string ⟨name.toArray⟩,.slice A9 rf.length cp9,.int .i64 kk] 150)) c6 .stoL 150 3 (.slice A zs.length cap) zs.length (zs.flatMap yF) from HX6.o.packs.ext ((Ext.refl w6 c6 S0).alloc _) rfl) hown7 hgr7 hat7;have HR7:=Hh hr7;have HE7:=Hh (((Ext.refl w6 c6 (S1 .stoL)).alloc (.cells #[.string ⟨name.toArray⟩,.slice A9 rf.length cp9,.int .i64 kk] 150)).trans he7);have hb7:=(HE7.o.kept HX6.o.own HX6.o.col rfl).1;have f1:=qC hb7 1;have d1:w7.cell? ⟨b,1,none⟩=some (.slice A zs.length cap):=zJ1 w7 b 1 _ _ _ hb7;clear hown7 hgr7 hat7 hr7 he7 hb7);go_ret2;rw[HRS.o];obtain⟨p1,p2⟩:=HX6.o.relist HE7.o (A':=A7) (cap':=cp7) (zs':=zs++[⟨⟨name,rf,kk⟩,A9,cp9⟩]) (by simpa[yF] using HR7.o) (fun x hx=>by
           rcases zX.1 hx with h1 | h1
           ·exact⟨(HX6.o.ro x h1).1,(HX6.o.ro x h1).2.ext HE7.o rfl⟩
           ·rw[zg.1 h1]
            exact⟨HCP.o,HR6.o.ext HE7.o rfl⟩)
          rw[show (zs++[(⟨⟨name,rf,kk⟩,A9,cp9⟩:PkX)]).length=zs.length+1 by simp] at p1 p2;refine⟨_,_,_,rfl,(((HE8.o.mono qNi).then HE6.o nN).then HE7.o (jP rfl)).then p2 (jP rfl),rfl,rfl,?_⟩;have p3:=p1.shut;rw[zU,HX6.o.eq] at p3;exact p3
end
end Go.Proofs.YtbmkaekimccdgaaGreatDoor
