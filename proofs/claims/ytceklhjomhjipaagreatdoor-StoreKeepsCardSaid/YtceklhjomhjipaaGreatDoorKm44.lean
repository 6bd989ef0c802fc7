/- Texts of this claim, merged: StoDo, News, Repeat, DiskNew, RunPure, StoNew. -/
import Derived.Laws.CopyOwn
import Derived.Test.YtceklhjomhjipaaGreatDoorKm43
set_option maxHeartbeats 16000000
set_option maxRecDepth 1000000
set_option linter.all false
namespace Go.Proofs.YtceklhjomhjipaaGreatDoor
open Go.RowKit Go.Sort Go.Shelf Stl
theorem qDg {p:Nat→Addr} (e:Addr) (w:World) (hE:Errs w p) :
  Calls Tryz.prog 21 #[.iface 377 (.pointer (some e))] w fun ev w'=>ev=.returned (.iface 377 (.pointer (some e)))∧Below w.heap.size w w':=by
 have hb1:=(zB w.heap.size w).alloc (zq _) (.cells #[.pointer none] 62)
 have HB1:=Hh hb1
 have HAS:=Hh (qRu e ⟨w.heap.size,0,none⟩ (w.alloc (.cells #[.pointer none] 62)) (hE.later hb1).ety.1)
 clear hE hb1
 go_enter Tryz.func21,Tryz.ntmps21
 go_wp2_with (go_at_call 49;refine HAS.out.mono ?_;rintro ev w2 ⟨rfl,hb2⟩;have HB2:=Hh (HB1.out.trans (hb2.mono HB1.out.size));clear hb2)
 go_ret
 exact ⟨rfl,HB2.out⟩
def Sdo:Col→Bool:=fun y=>!(decide (y=.ro)||decide (y=.dead))
def kDo (c:Nat→Col):Nat→Col:=fun k=>if c k=.ro then .ro else if c k=.tape then .tape else if c k=.tapeL then .tapeL else .dead
def qJl:Col→Bool:=fun y=>!(decide (y=.ro)||decide (y=.tape)||decide (y=.tapeL)||decide (y=.dead))
theorem qHk {c:Nat→Col} {k:Nat} (h:qJl (c k)=false):kDo c k=c k:=by
 unfold kDo qJl at *
 cases hc:c k<;>simp [hc] at h ⊢
theorem qHr (c:Nat→Col) (k:Nat):qDx (kDo c k)=false:=by
 unfold kDo
 split
 ·rfl
 ·split
  ·rfl
  ·split<;>rfl
theorem qG0 {p:Nat→Addr} {w:World} {c:Nat→Col} {b tp:Nat} {cd:Nat} {a:ByteArray} {er:Value} {w':World} (h:ChPost p w c b tp (.error cd) (.returned (.tuple #[.string a,er])) w'):(er=qAB p cd∧cd≠0)∧∃ c2,Ext w w' c c2 qDx:=by
 obtain ⟨a',er',c2,hev,he,hm⟩:=h
 have:er=er':=by
  injection hev with hev
  injection hev with hev
  have:=congrArg (fun x:Array Value=>x[1]?) hev
  simpa using this
 exact ⟨this▸hm,c2,he⟩
theorem qFT {p:Nat→Addr} {w:World} {c:Nat→Col} {b tp:Nat} {q:List UInt8×Sto} {a:ByteArray} {er:Value} {w':World} (h:ChPost p w c b tp (.ok q) (.returned (.tuple #[.string a,er])) w'):(er=.nilIface∧a=⟨q.1.toArray⟩)∧∃ c2,Ext w w' c c2 qDx∧StoAt w' c2 b q.2 tp:=by
 obtain ⟨a',er',c2,hev,he,h1,h2,h3⟩:=h
 have e1:er=er':=by
  injection hev with hev
  injection hev with hev
  have:=congrArg (fun x:Array Value=>x[1]?) hev
  simpa using this
 have e2:a=a':=by
  injection hev with hev
  injection hev with hev
  have:=congrArg (fun x:Array Value=>x[0]?) hev
  simpa using this
 exact ⟨⟨e1▸h1,e2▸h2⟩,c2,he,h3⟩
def qPK (p:Nat→Addr) (w:World) (c:Nat→Col) (b tp:Nat) (s:Sto) (t:Stl.Tape) (line:List UInt8) (ev:Ending) (w':World):Prop :=
 ∃ (a:ByteArray) (er:Value) (c2:Nat→Col),ev=.returned (.tuple #[.string a,er])∧Ext w w' c c2 Sdo∧StoAt w' c2 b (qAh s t line).2.1 tp∧TapeAt w' c2 tp (qAh s t line).2.2 ∧
  match (qAh s t line).1 with
  | .error cd=>er=qAB p cd∧cd≠0∧a=⟨#[]⟩
  | .ok x=>er=.nilIface∧a=⟨x.toArray⟩
section
variable {w:World} {A:Option Addr} {zs:List PkX} {c:Nat→Col} {b:Nat} {s:Sto} {bd:Nat} {cap:Nat} {R:Option Addr} {rc tp:Nat} {p:Nat→Addr}
theorem StoX.moved {w2:World} {c2:Nat→Col} {b2:Nat} (h:StoX w c b s bd A cap zs R rc tp) (hd:c b2=.dead) (e:Ext w w2 (qAs c b2 .sto) c2 (S1 .sto)) (ho:w2.heap[b2]?=some (.cells #[.pointer (some ⟨bd,0,none⟩),.slice A zs.length cap,.slice R s.roots.length rc,.pointer (some ⟨tp,0,none⟩)] 51 (0,0))) (hc:c2 b2=.sto) :
  StoX w2 c2 b2 s bd A cap zs R rc tp:=by
 have e1:Ext w w c (qAs c b2 .sto) (S1 .dead):=Ext.paint w hd .sto
 refine ⟨ho,hc,(h.dirs.ext e1 rfl (fun x hx=>qBm (by intro e;subst e;cases hx))).ext e rfl (fun x hx=>qBm (by intro e;subst e;cases hx)),(h.packs.ext e1 rfl).ext e rfl,h.eq,fun x hx=>⟨(h.ro x hx).1,((h.ro x hx).2.ext e1 rfl).ext e rfl⟩,(h.roots.ext e1 rfl).ext e rfl⟩
theorem qQP {t:Stl.Tape} (h:StoX w c b s bd A cap zs R rc tp) (ht:TapeAt w c tp t) (hg:qAS s) (hE:Env w c p) (line:List UInt8) (hr:line.length≤20000) (h1:t.off=false) (h2:t.cut=none) (h3:t.b.length+(record line).length≤1048576) :
  Calls Tryz.prog 10 #[.pointer (some ⟨b,0,none⟩),.string ⟨line.toArray⟩] w (qPK p w c b tp s t line):=by
 have hfew:=h.few hg.ok
 have H:=Hh h
 have HT:=Hh ht
 have HG:=Hh hg
 have HE:=Hh hE
 have HOF:=Hh h1
 have HCU:=Hh h2
 have HCO:=Hh (qG2 (kDo c) (fun k hk=>by unfold kDo;rw [zM1 hk]) h hg.good (by omega) (by have:=qCt hg.ok;omega))
 have HAP:=Hh (show t.append line=(0,{ t with b:=t.b++record line }) from by
  unfold Tape.append
  rw [zL1 (by omega),zL1 (by omega),zL1 (by rw [h1];decide),h2])
 obtain ⟨chg,hchg⟩:∃ chg,chg=s.change line:=⟨_,rfl⟩
 have HCH:=Hh hchg
 have hbl:=qAa h.own
 clear h ht hg hE h1 h2
 go_enter Tryz.func10,Tryz.ntmps10
 go_upto_region 2 with (go_at_call 17;refine HCO.out.mono ?_;rintro ev w2 ⟨b2,c2,rfl,hb2,hc2,hge2,hst2⟩;have HB2:=Hh hb2;have HC2:=Hh hc2;have HST2:=Hh hst2;clear hb2 hc2 hst2)
 have he2:Ext w w2 c c2 qJl:=(Ext.of_below HB2.out c qJl).recolor fun k hk hs=>(HC2.out k hk).trans (qHk hs)
 have HE2:=Hh he2
 have HEN2:=Hh (HE.out.ext he2 rfl)
 obtain ⟨bd2,A2,cap2,zs2,R2,rc2,hx2⟩:=HST2.out.open
 have HX2:=Hh hx2
 have HLOW:=Hh (show ∀ k,k<w.heap.size→qDx (c2 k)=false from fun k hk=>by rw [HC2.out k hk];exact qHr c k)
 have HCC:=Hh (qC8 hx2 HG.out HEN2.out line (by omega))
 rw [← hchg] at HCC
 clear he2 hx2 hchg
 cases chg with
 | none =>
  have HDL:=Hh (show qAh s t line=(s.tell line,s,t) from by unfold qAh;rw [← HCH.out])
  go_upto_region 4 with (go_at_call 18;refine HCC.out.mono ?_;rintro ev w3 ⟨a3,er3,is3,rfl,rfl,rfl,hb3⟩;have HB3:=Hh hb3;clear hb3)
  have HTL:=Hh (qLa (HX2.out.below HB3.out) HG.out (HEN2.out.below HB3.out) line (by omega))
  have HB23:=Hh (HB2.out.trans (HB3.out.mono HB2.out.size))
  cases htl:s.tell line with
  | error cd =>
   rw [htl] at HTL HDL
   clear htl
   go_upto_region 5 with (go_at_call 19;refine HTL.out.mono ?_;rintro ev w4 ⟨a4,er4,rfl,hb4,rfl,hcd⟩;have HB4:=Hh (HB23.out.trans (hb4.mono HB23.out.size));have HEO:=Hh (qAc p hcd);have HCD:=Hh hcd;clear hb4 hcd)
   rw [HEO.out]
   have HBR:=Hh (qDg (p cd) w4 (HE.out.below HB4.out).errs)
   go_wp2_with (go_at_call 21;refine HBR.out.mono ?_;rintro ev w5 ⟨rfl,hb5⟩;have HB5:=Hh (HB4.out.trans (hb5.mono HB4.out.size));clear hb5)
   go_ret2
   refine ⟨_,_,c,rfl,Ext.of_below HB5.out c Sdo,?_⟩
   rw [HDL.out]
   exact ⟨(H.out.below HB5.out).shut,HT.out.ext (Ext.of_below HB5.out c S0) rfl rfl,by rw [HEO.out];rfl,HCD.out,rfl⟩
  | ok x =>
   rw [htl] at HTL HDL
   clear htl
   go_upto_region 5 with (go_at_call 19;refine HTL.out.mono ?_;rintro ev w4 ⟨a4,er4,rfl,hb4,rfl,rfl⟩;have HB4:=Hh (HB23.out.trans (hb4.mono HB23.out.size));clear hb4)
   go_wp2
   go_ret2
   refine ⟨_,_,c,rfl,Ext.of_below HB4.out c Sdo,?_⟩
   rw [HDL.out]
   exact ⟨(H.out.below HB4.out).shut,HT.out.ext (Ext.of_below HB4.out c S0) rfl rfl,rfl,rfl⟩
 | some res =>
  cases res with
  | error cd =>
   have HDL:=Hh (show qAh s t line=(.error cd,s,t) from by unfold qAh;rw [← HCH.out])
   go_upto_region 5 with (go_at_call 18;refine HCC.out.mono ?_;rintro ev w3 ⟨a3,er3,is3,rfl,rfl,hch⟩;obtain ⟨⟨rfl,hcd⟩,c3,he3⟩:=qG0 hch;have HE3:=Hh he3;have HEO:=Hh (qAc p hcd);have HCD:=Hh hcd;clear he3 hcd hch)
   have HB3:=Hh (HB2.out.trans (HE3.out.below HB2.out.size HLOW.out))
   rw [HEO.out]
   have HBR:=Hh (qDg (p cd) w3 (HE.out.below HB3.out).errs)
   go_wp2_with (go_at_call 21;refine HBR.out.mono ?_;rintro ev w5 ⟨rfl,hb5⟩;have HB5:=Hh (HB3.out.trans (hb5.mono HB3.out.size));clear hb5)
   go_ret2
   refine ⟨_,_,c,rfl,Ext.of_below HB5.out c Sdo,?_⟩
   rw [HDL.out]
   exact ⟨(H.out.below HB5.out).shut,HT.out.ext (Ext.of_below HB5.out c S0) rfl rfl,by rw [HEO.out];rfl,HCD.out,rfl⟩
  | ok q =>
   obtain ⟨a,s1⟩:=q
   have HDL:=Hh (show qAh s t line=(.ok a,s1,{ t with b:=t.b++record line }) from by unfold qAh;rw [← HCH.out];simp only;rw [HAP.out,zM1 rfl])
   go_upto_region 5 with (go_at_call 18;refine HCC.out.mono ?_;rintro ev w3 ⟨a3,er3,is3,rfl,rfl,hch⟩;obtain ⟨⟨rfl,rfl⟩,c3,he3,hs3⟩:=qFT hch;have HE3:=Hh he3;have HS3:=Hh hs3;clear he3 hch hs3)
   have HB3:=Hh (HB2.out.trans (HE3.out.below HB2.out.size HLOW.out))
   have HX3:=Hh (H.out.below HB3.out)
   have HT3:=Hh ((HT.out.ext HE2.out rfl rfl).ext HE3.out rfl rfl)
   have c3b:=ce3 HX3.out.own
   have HAW:=Hh (qMr HT3.out HOF.out HCU.out line hr h3 (HE.out.below HB3.out).vars)
   go_upto_region 7 with (go_at_call 20;refine HAW.out.mono ?_;rintro ev w4 ⟨rfl,c4,he4,ht4⟩;have HE4:=Hh he4;have HT4:=Hh ht4;clear he4 ht4)
   clear c3b
   obtain ⟨bd4,A4,cap4,zs4,R4,rc4,hx4⟩:=(HS3.out.ext HE4.out rfl (fun x hx=>by cases x<;>first | rfl | (cases hx))).open
   have HX4:=Hh hx4
   have hb3d:c3 b=.dead:=(HE3.out.col (zu hbl HB2.out.size) (show c2 b=.dead from by rw [HC2.out b hbl];unfold kDo;rw [H.out.col];decide) rfl)
   have hob:=HE4.out.kept HX3.out.own hb3d rfl
   have HOB:=Hh hob
   have a0:=ce0 hx4.own
   have a1:=ce1 hx4.own
   have a2:=ce2 hx4.own
   have a3:=ce3 hx4.own
   have f0:w4.frozen? ⟨b,0,none⟩=false:=qAb hob.1 0
   have f1:w4.frozen? ⟨b,1,none⟩=false:=qAb hob.1 1
   have f2:w4.frozen? ⟨b,2,none⟩=false:=qAb hob.1 2
   have f3:w4.frozen? ⟨b,3,none⟩=false:=qAb hob.1 3
   have b0:=ce0 hob.1
   have b1:=ce1 hob.1
   have b2c:=ce2 hob.1
   have b3c:=ce3 hob.1
   clear hx4 hob hb3d
   go_wp2
   go_ret2
   have hc5:=qAm c4 b .sto
   have hS5:S1 .sto (qAs c4 b .sto b)=true:=by rw [hc5];rfl
   have hSb:Sdo (c b)=true:=by rw [H.out.col];rfl
   have e5:=((((Ext.refl w4 (qAs c4 b .sto) (S1 .sto)).setCell (a:=⟨b,0,none⟩) (fun _=>hS5) (.pointer (some ⟨bd4,0,none⟩))).setCell (a:=⟨b,1,none⟩) (fun _=>hS5) (.slice A4 zs4.length cap4)).setCell (a:=⟨b,2,none⟩) (fun _=>hS5) (.slice R4 s1.roots.length rc4)).setCell (a:=⟨b,3,none⟩) (fun _=>hS5) (.pointer (some ⟨tp,0,none⟩))
   have ep:=Ext.paint w4 HOB.out.2 .sto
   have ew:Ext w w4 c (qAs c4 b .sto) Sdo:=(((HE2.out.mono (S':=Sdo) (fun x hx=>by cases x<;>first | rfl | (cases hx))).then HE3.out (fun x hx=>by cases x<;>first | rfl | (cases hx))).then HE4.out (fun x hx=>by cases x<;>first | rfl | (cases hx))).recolor fun k hk hs=>qCX (fun e=>by rw [e,hSb] at hs;cases hs)
   have e5w:=(((ew.setCell (a:=⟨b,0,none⟩) (fun _=>hSb) (.pointer (some ⟨bd4,0,none⟩))).setCell (a:=⟨b,1,none⟩) (fun _=>hSb) (.slice A4 zs4.length cap4)).setCell (a:=⟨b,2,none⟩) (fun _=>hSb) (.slice R4 s1.roots.length rc4)).setCell (a:=⟨b,3,none⟩) (fun _=>hSb) (.pointer (some ⟨tp,0,none⟩))
   have ho5:=qAd (qAd (qAd (qAd HOB.out.1 0 (.pointer (some ⟨bd4,0,none⟩))) 1 (.slice A4 zs4.length cap4)) 2 (.slice R4 s1.roots.length rc4)) 3 (.pointer (some ⟨tp,0,none⟩))
   refine ⟨_,_,qAs c4 b .sto,rfl,e5w,?_⟩
   rw [HDL.out]
   exact ⟨(HX4.out.moved HOB.out.2 e5 ho5 hc5).shut,(HT4.out.ext ep rfl rfl).ext e5 rfl rfl,rfl,rfl⟩
end
theorem qPh:qBZ 4 (.bool false) 1 1:=qBW (by kernel_rfl) rfl (by decide)
theorem qLD (n:Nat):(madeCells (Value.bool false).cells (n*1)).toList=(List.replicate n false).map Value.bool:=by
 rw [List.map_replicate]
 refine List.eq_replicate_iff.2 ⟨by simp [madeCells],fun x hx=>?_⟩
 simp only [madeCells,Array.toList_map,ze] at hx
 obtain ⟨k,_,rfl⟩:=hx
 simp [Value.cells,Nat.mod_one]
def qPk (n:Nat) (w:World) (c:Nat→Col) (e:Ending) (w':World):Prop :=
 ∃ (b:Nat) (c2:Nat→Col),e=.returned (.tuple #[.pointer (some ⟨b,0,none⟩),.nilIface])∧Below w.heap.size w w'∧SpaceAt w' c2 b (List.replicate n false)∧∀ k,k<w.heap.size→c2 k=c k
theorem qOs (n:Nat) (h1:1≤n) (h2:n≤512) (w:World) (c:Nat→Col) :
  Calls Tryz.prog 30 #[.int .i64 n] w (qPk n w c):=by
 have i1:¬ (n:Int)<1:=by omega
 have i2:¬ (512:Int)<(n:Int):=by omega
 obtain ⟨i0,hi,hz0,hz1,hz2⟩:=qPh.info
 obtain ⟨w1,hmk,hown,hg⟩:=run_makeSlice_full (P:=Tryz.prog) w 0 129 4 i0 (.bool false) 1 Tryz.underlying129 hi hz0 hz1 .i64 .i64 n (by omega) (by rw [hz2];omega) (by unfold maxLen;omega) (zx _)
 have HOWN:=Hh hown
 have HG:=Hh hg
 have HB:=Hh ((zB w.heap.size w).grown hg (zq _) (fun k hk=>by cases hk))
 clear hi hz0 hz1 hz2 hown hg
 go_enter Tryz.func30,Tryz.ntmps30
 go_wp2_with fail
 go_ret2
 have hgl:w.heap.size<w1.heap.size:=(HOWN.out.lt w.heap.size rfl).2
 refine ⟨w1.heap.size,qAs (qAs c w.heap.size .used) w1.heap.size .space,rfl,HB.out.alloc HB.out.size _,⟨_,zK1 w1 _,qAm _ _ _,?_⟩,fun k hk=>?_⟩
 ·rw [List.length_replicate]
  refine ⟨?_,fun k hk=>?_⟩
  ·have h:=HOWN.out
   rw [qLD] at h
   exact h.kept (Below.toGrown ((zB _ w1).alloc (zq _) _) none) (by cases Value.ownBlock (Value.slice (some ⟨w.heap.size,0,none⟩) n n)<;>simp)
  ·simp [Value.ownBlock] at hk
   subst hk
   rw [qAf hgl (zq _),qAm]
 ·rw [qAf (Nat.lt_trans hk hgl) (zq _),qAf hk (zq _)]
def qO6 (T:Tab) (w:World) (c:Nat→Col) (e:Ending) (w':World):Prop :=
 ∃ (b:Nat) (c2:Nat→Col),e=.returned (.tuple #[.pointer (some ⟨b,0,none⟩),.nilIface])∧Below w.heap.size w w'∧DirsAt w' c2 b ⟨T,[],0⟩∧∀ k,k<w.heap.size→c2 k=c k
theorem qPC {w:World} {c:Nat→Col} {bt:Nat} {T:Tab} (h:TabAt w c bt T) :
  Calls Tryz.prog 15 #[.pointer (some ⟨bt,0,none⟩)] w (qO6 T w c):=by
 have hmm:=@run_makeMap Tryz.prog
 have HT:=Hh h
 clear h
 go_enter Tryz.func15,Tryz.ntmps15
 go_wp2_with fail
 go_ret2
 have hb1:Below w.heap.size w (w.alloc (.map #[] 0)):=(zB _ w).alloc (zq _) _
 have e1:Ext w (w.alloc (.map #[] 0)) c (qAs c w.heap.size .dirsMap) S0:=Ext.made w c S0 _ _
 have e2:=Ext.made (w.alloc (.map #[] 0)) (qAs c w.heap.size .dirsMap) S0 (.cells #[.pointer (some ⟨bt,0,none⟩),.map (some w.heap.size),.int .i64 0] 89) .dirs
 have e3:=e1.trans e2
 refine ⟨(w.alloc (.map #[] 0)).heap.size,qAs (qAs c w.heap.size .dirsMap) (w.alloc (.map #[] 0)).heap.size .dirs,by simp,hb1.alloc (by simp) _,⟨bt,w.heap.size,fun _=>[],fun _=>0,?_⟩,fun k hk=>?_⟩
 ·refine ⟨zK1 _ _,qAm _ _ _,HT.out.ext e3 rfl (fun _ _=>rfl),?_,?_,(fun k e he=>by cases he),(fun k e he=>by cases he),(fun k e he=>by cases he)⟩
  ·rw [qAf (n:=(w.alloc (.map #[] 0)).heap.size) (by simp) (zq _),qAm]
  ·exact (zzMapAt.made w Tryz.prog 3 qKE).ext e2 (qAm _ _ _) rfl
 ·rw [qAf (n:=w.heap.size) hk (by simp),qAf hk (zq _)]
def qOX (D:List (List UInt8)) (w:World) (c:Nat→Col) (e:Ending) (w':World):Prop :=
 ∃ (b:Nat) (c2:Nat→Col),e=.returned (.tuple #[.pointer (some ⟨b,0,none⟩),.nilIface])∧Below w.heap.size w w'∧TabAt w' c2 b ⟨D,[]⟩∧∀ k,k<w.heap.size→c2 k=c k
theorem qPw {w:World} {c:Nat→Col} {bd:Nat} {D:List (List UInt8)} (h:DiskAt w c bd D) (h1:1≤D.length) (h2:D.length≤512) :
  Calls Tryz.prog 14 #[.pointer (some ⟨bd,0,none⟩)] w (qOX D w c):=by
 have hmm:=@run_makeMap Tryz.prog
 have HD:=Hh h
 have HLN:=Hh (qOI h)
 have HSN:=Hh (qOs D.length h1 h2 w c)
 clear h
 go_enter Tryz.func14,Tryz.ntmps14
 go_upto_region 6 with (first
  | (go_at_call 31;refine HLN.out.mono ?_;rintro ev w2 ⟨rfl,hw2⟩;have hw3:w=w2:=hw2.symm;clear hw2;subst hw3)
  | (go_at_call 30;refine HSN.out.mono ?_;rintro ev w3 ⟨bs,c3,rfl,hb3,hs3,hc3⟩;have HB3:=Hh hb3;have HS3:=Hh hs3;have HC3:=Hh hc3;clear hb3 hs3 hc3))
 go_wp2_with fail
 go_ret2
 have hb1:Below w3.heap.size w3 (w3.alloc (.map #[] 0)):=(zB _ w3).alloc (zq _) _
 have e0:Ext w w3 c c3 S0:=(Ext.of_below HB3.out c S0).recolor fun b hb _=>HC3.out b hb
 have e1:Ext w3 (w3.alloc (.map #[] 0)) c3 (qAs c3 w3.heap.size .tabMap) S0:=Ext.made w3 c3 S0 _ _
 have e2:=Ext.made (w3.alloc (.map #[] 0)) (qAs c3 w3.heap.size .tabMap) S0 (.cells #[.pointer (some ⟨bd,0,none⟩),.pointer (some ⟨bs,0,none⟩),.map (some w3.heap.size)] 86) .tab
 have e3:=e1.trans e2
 refine ⟨(w3.alloc (.map #[] 0)).heap.size,qAs (qAs c3 w3.heap.size .tabMap) (w3.alloc (.map #[] 0)).heap.size .tab,by simp,HB3.out.trans ((hb1.alloc (by simp) _).mono HB3.out.size),⟨bd,bs,w3.heap.size,fun _=>0,?_⟩,fun k hk=>?_⟩
 ·refine ⟨zK1 _ _,qAm _ _ _,HD.out.ext (e0.trans e3) rfl rfl,?_,?_,?_,fun k x hx=>?_⟩
  ·have hu:qAX ⟨D,[]⟩=List.replicate D.length false:=by
    unfold qAX Tab.isUsed
    simp only [List.any_nil]
    exact List.eq_replicate_iff.2 ⟨by simp,fun x hx=>by
     obtain ⟨k,_,rfl⟩:=ze.1 hx
     rfl⟩
   rw [hu]
   exact HS3.out.ext e3 rfl rfl
  ·rw [qAf (n:=(w3.alloc (.map #[] 0)).heap.size) (by simp) (zq _),qAm]
  ·refine ((zzMapAt.made w3 Tryz.prog 3 qKE).ext e2 (qAm _ _ _) rfl).congr fun k=>?_
   simp [qAF,Tab.at_]
  ·simp [Tab.at_] at hx
 ·have hlt:k<w3.heap.size:=zu hk HB3.out.size
  rw [qAf (n:=w3.heap.size) hlt (by simp),qAf hlt (zq _)]
  exact HC3.out k hk
end Go.Proofs.YtceklhjomhjipaaGreatDoor
namespace Go.Proofs.YtceklhjomhjipaaGreatDoor
open Go.RowKit Go.Sort Stl
theorem qQc:∀ n:Nat,n≤512→bits BinOp.and IntKind.u64 (n:Int) 4294967295=(n:Int):=by decide +kernel
theorem qNJ (n:Nat) (hn:n≤512) (w:World):Calls Tryz.prog 108 #[.int .u64 1,.int .u64 n] w fun e w'=>e=.returned (.tuple #[.int .u64 0,.int .u64 n])∧w'=w:=by
 have b0:bits BinOp.and IntKind.u64 0 4294967295=0:=qQc 0 (by omega)
 have b1:bits BinOp.and IntKind.u64 1 4294967295=1:=qQc 1 (by omega)
 have b2:=qQc n hn
 have d1:(n:Int)/4294967296=0:=by omega
 have d2:IntKind.u64.wrap (n:Int)=(n:Int):=by simp [IntKind.wrap,IntKind.bits,IntKind.signed];omega
 go_enter Tryz.func108,Tryz.ntmps108
 go_wp2
 go_ret2
 exact ⟨by simp,rfl⟩
theorem mul_one (n:Nat) (hn:n≤512) (w:World):Calls Tryz.prog 58 #[.int .u64 1,.int .u64 n] w fun e w'=>e=.returned (.tuple #[.int .u64 0,.int .u64 n])∧w'=w:=by
 have HM:=Hh (qNJ n hn w)
 go_enter Tryz.func58,Tryz.ntmps58
 go_wp2_with (go_at_call 108;refine HM.out.mono ?_;rintro ev w2 ⟨rfl,rfl⟩)
 go_ret2
 exact ⟨rfl,rfl⟩
theorem qPM:(Tryz.prog.info? 9).map (·.size)=some 1:=by kernel_rfl
def qRa (w0 w:World) (g n m:Nat) (z:List UInt8):Prop :=
 ∃ L:List Value,w.heap[g]?=some (.cells L.toArray 9 (0,0))∧L.length=n∧L.take m=List.replicate m (encStr z)∧Below w0.heap.size w0 w
theorem qOi {n m k:Nat} {L:List Value} {v:Value} (hL:L.length=n) (ht:L.take m=List.replicate m v) (hk:m+k≤n) (hkm:k≤m):(splice L m (L.take k)).length=n∧(splice L m (L.take k)).take (m+k)=List.replicate (m+k) v:=by
 have hkl:(L.take k).length=k:=by simp;omega
 refine ⟨by rw [length_splice _ _ _ (by omega),hL],?_⟩
 have e:L.take k=List.replicate k v:=by
  have:=congrArg (List.take k) ht
  rw [List.take_take,Nat.min_eq_left hkm,List.take_replicate,Nat.min_eq_left hkm] at this
  exact this
 unfold splice
 rw [ht,e,← List.append_assoc,List.replicate_append_replicate,List.take_left' (by simp)]
theorem qLY (z:List UInt8) (n:Nat) (h1:1≤n) (h2:n≤512) (w:World) (bx:Nat) (hbx:bx<w.heap.size) (hc:w.cell? ⟨bx,0,none⟩=some (.string ⟨z.toArray⟩)) :
  Calls Tryz.prog 28 #[.slice (some ⟨bx,0,none⟩) 1 1,.int .i64 n] w fun e w'=>e=.returned (.slice (some ⟨w.heap.size,0,none⟩) n n)∧w'.ownsRow w.heap.size 9 1 (.slice (some ⟨w.heap.size,0,none⟩) n n) n (List.replicate n (encStr z))∧Below w.heap.size w w':=by
 have i1:¬ (n:Int)<0:=by omega
 have i2:¬ (9223372036854775807:Int)<(n:Int):=by omega
 have i3:IntKind.u64.wrap (n:Int)=(n:Int):=by simp [IntKind.wrap,IntKind.bits,IntKind.signed];omega
 have HM:=Hh (mul_one n h2 w)
 obtain ⟨i0,hi,hz0,hz1,hz2⟩:=qEQ.info
 obtain ⟨w1,hmk,hown,hg⟩:=run_makeSlice_full (P:=Tryz.prog) w 0 22 9 i0 (.string ByteArray.empty) 1 Tryz.underlying22 hi hz0 hz1 .i64 .i64 n (by omega) (by rw [hz2];omega) (by unfold maxLen;omega) (zx _)
 have HB1:=Hh ((zB w.heap.size w).grown hg (zq _) (fun k hk=>by cases hk))
 have hrow:∃ L:List Value,w1.heap[w.heap.size]?=some (.cells L.toArray 9 (0,0))∧L.length=n:=by
  rcases hown.2 with ⟨h3,h4⟩ | ⟨g,cap,cur,e1,_,h3,_,_,h4,_⟩
  ·omega
  ·injection e1 with e1 e2 e3
   injection e1 with e1
   injection e1 with e1
   subst e1 e3
   exact ⟨cur.toList,by simpa using h3,by simpa using h4⟩
 obtain ⟨L0,hL0,hL1⟩:=hrow
 have HL0:=Hh hL0
 have HL1:=Hh hL1
 have c0:w1.cell? ⟨bx,0,none⟩=some (.string ⟨z.toArray⟩):=(HB1.out.cell (p:=⟨bx,0,none⟩) hbx).trans hc
 have HC0:=Hh c0
 clear hi hz0 hz1 hz2 hown hg hL0 hL1 hc
 have HMIN:=Hh (show ([Value.string ⟨z.toArray⟩]:List Value).length=Nat.min 1 n by simp [Nat.min_def];omega)
 have HSRC:=Hh (show ∀ (j:Nat) (v:Value),[Value.string ⟨z.toArray⟩][j]?=some v→w1.cell? ((⟨bx,0,none⟩:Addr).add j)=some v from fun j v hj=>by
  cases j with
  | zero =>
   have e1:(⟨bx,0,none⟩:Addr).add 0=⟨bx,0,none⟩:=by unfold Addr.add;split<;>simp_all
   simp only [List.getElem?_cons_zero,zB1] at hj
   rw [e1,← hj]
   exact HC0.out
  | succ j=>simp at hj)
 have HFIT:=Hh (show 0+([Value.string ⟨z.toArray⟩]:List Value).length≤L0.length by rw [HL1.out];simp;omega)
 have HONE:=Hh (show ∀ v∈([Value.string ⟨z.toArray⟩]:List Value),v.oneCell'=true by simp [Value.oneCell'])
 obtain ⟨w2,hcp,HG2,HB2⟩:∃ w2,(Builtin.copy_ #[22,22] 3 #[.slice (some ⟨w.heap.size,0,none⟩) n n,.slice (some ⟨bx,0,none⟩) 1 1]).run Tryz.prog w1=.ok (.int .i64 1) w2∧Hid (w2.heap[w.heap.size]?=some (.cells (splice L0 0 [.string ⟨z.toArray⟩]).toArray 9 (0,0)))∧Hid (Below w.heap.size w w2):=by
  refine ⟨_,run_copy_row (P:=Tryz.prog) w1 22 22 3 9 w.heap.size 0 n n ⟨bx,0,none⟩ 1 1 L0.toArray 9 [.string ⟨z.toArray⟩] Tryz.underlying22 qPM HL0.out HMIN.out HSRC.out (by simpa using HFIT.out) HONE.out,Hh ?_,Hh (below_setRow HB1.out (zq _) _)⟩
  simpa [splice] using setRow_heap w1 w.heap.size _ _ 9 _ HL0.out
 go_enter Tryz.func28,Tryz.ntmps28
 go_upto_region 7 with (go_at_call 58;refine HM.out.mono ?_;rintro ev w2 ⟨rfl,hw2⟩;have hw3:w=w2:=hw2.symm;clear hw2;subst hw3)
 go_wp2_with fail
 have H0:=Hh (show qRa w w2 w.heap.size n 1 z from ⟨_,HG2.out,by rw [length_splice _ _ _ HFIT.out];exact HL1.out,by simp [splice,encStr],HB2.out⟩)
 clear HG2 HB2 hmk c0 hcp
 go_loopw [8] (fun a wr=>∃ m:Nat,1≤m∧m≤n∧a=.int .i64 m∧Hid (qRa w wr w.heap.size n m z)) (fun a _=>n-(intOf a).toNat)
 case atStart=>exact ⟨1,zq _,h1,rfl,H0⟩
 case round =>
  obtain ⟨m,hm1,hm2,rfl,HS⟩:=hrel
  by_cases hmn:m<n
  ·have j1:(m:Int)<(n:Int):=by omega
   have j2:(0:Int)≤(m:Int):=by omega
   have j3:(m:Int)≤(n:Int):=by omega
   obtain ⟨L,l1,l2,l3,l4⟩:=HS.out
   have HLL:=Hh l1
   have HLN:=Hh l2
   have HLT:=Hh l3
   have HLB:=Hh l4
   obtain ⟨k,hk⟩:∃ k,k=min m (n-m):=⟨_,rfl⟩
   have hkm:k≤m:=by omega
   have hkn:m+k≤n:=by omega
   have hk1:1≤k:=by omega
   have HLEN:=Hh (show (L.take k).length=Nat.min m (n-m) by show _=min m (n-m);rw [List.length_take,l2];omega)
   have HSR:=Hh (show ∀ (j:Nat) (v:Value),(L.take k)[j]?=some v→wr.cell? ((⟨w.heap.size,0,none⟩:Addr).add j)=some v from fun j v hj=>by
    have e1:(⟨w.heap.size,0,none⟩:Addr).add j=⟨w.heap.size,j,none⟩:=by unfold Addr.add;split<;>simp_all
    rw [e1,zJ1 wr _ j _ _ _ l1]
    rw [List.getElem?_take] at hj
    split at hj
    ·simpa using hj
    ·cases hj)
   have HFT:=Hh (show m+(L.take k).length≤L.length by rw [List.length_take,l2];omega)
   have HON:=Hh (show ∀ v∈L.take k,v.oneCell'=true from fun v hv=>by
    have h5:L.take k=List.replicate k (encStr z):=by
     have:=congrArg (List.take k) l3
     rw [List.take_take,Nat.min_eq_left hkm,List.take_replicate,Nat.min_eq_left hkm] at this
     exact this
    rw [h5] at hv
    rw [(List.mem_replicate.1 hv).2]
    rfl)
   have HRM:=Hh (qOi (k:=k) l2 l3 hkn hkm)
   obtain ⟨X,hX⟩:∃ X,X=L.take k:=⟨_,rfl⟩
   rw [← hX] at HLEN HSR HFT HON HRM
   have HXL:=Hh (show X.length=k by rw [HLEN.out];exact hk.symm)
   have HK1:=Hh hk1
   have HKN:=Hh hkn
   clear hk hkm hkn hk1
   clear l1 l2 l3 l4 hX
   obtain ⟨w4,hcp2,HG4,HB4⟩:∃ w4,(Builtin.copy_ #[22,22] 3 #[.slice (some ⟨w.heap.size,m,none⟩) (n-m) (n-m),.slice (some ⟨w.heap.size,0,none⟩) m n]).run Tryz.prog wr.drew=.ok (.int .i64 (k:Int)) w4∧Hid (w4.heap[w.heap.size]?=some (.cells (splice L m X).toArray 9 (0,0)))∧Hid (Below w.heap.size w w4):=by
    have hrun:=run_copy_row (P:=Tryz.prog) wr.drew 22 22 3 9 w.heap.size m (n-m) (n-m) ⟨w.heap.size,0,none⟩ m n L.toArray 9 X Tryz.underlying22 qPM HLL.out HLEN.out HSR.out (by simpa using HFT.out) HON.out
    rw [HXL.out] at hrun
    refine ⟨_,hrun,Hh ?_,Hh (below_setRow HLB.out.drew (zq _) _)⟩
    simpa [splice,HXL.out] using setRow_heap wr.drew w.heap.size _ (L.take m++(X++L.drop (m+k))).toArray 9 _ HLL.out
   go_upto_region 9 with fail
   go_region
   have hwr:wrap64 ((m:Int)+(k:Int))=((m+k:Nat):Int):=by
    have:=HKN.out
    unfold wrap64
    omega
   rw [hwr]
   go_wp2
   go_roundw
   case rel =>
    exact ⟨m+k,by have:=hm1;omega,HKN.out,rfl,Hh ⟨splice L m X,HG4.out,HRM.out.1,HRM.out.2,HB4.out⟩⟩
   case measure =>
    have:=HK1.out
    have:=HKN.out
    simp [intOf]
    omega
  ·have j1:¬ (m:Int)<(n:Int):=by omega
   obtain rfl:m=n:=by omega
   go_wp2
   go_ret
   obtain ⟨L,l1,l2,l3,l4⟩:=HS.out
   refine ⟨rfl,⟨by simp,.inr ⟨w.heap.size,m,L.toArray,rfl,zq _,l1,zq _,by unfold maxLen;omega,by simpa using l2,?_⟩⟩,l4⟩
   rw [Nat.mul_one]
   exact l3
end Go.Proofs.YtceklhjomhjipaaGreatDoor
namespace Go.Proofs.YtceklhjomhjipaaGreatDoor
open Go.RowKit Go.Sort Go.Shelf Stl
def qMP (n:Nat) (w:World) (c:Nat→Col) (e:Ending) (w':World):Prop :=
 ∃ (b:Nat) (c2:Nat→Col),e=.returned (.tuple #[.pointer (some ⟨b,0,none⟩),.nilIface])∧Below w.heap.size w w'∧DiskAt w' c2 b (List.replicate n (List.replicate 16 0))∧∀ k,k<w.heap.size→c2 k=c k
theorem qNw (n:Nat) (h1:1≤n) (h2:n≤512) (w:World) (c:Nat→Col) :
  Calls Tryz.prog 13 #[.int .i64 n] w (qMP n w c):=by
 have i1:¬ (n:Int)<1:=by omega
 have i2:¬ (512:Int)<(n:Int):=by omega
 obtain ⟨z,hz⟩:∃ z:List UInt8,z=List.replicate 16 0:=⟨_,rfl⟩
 have HR:=Hh (show Calls Tryz.prog 29 #[.string ⟨#[0]⟩,.int .i64 16] w fun e w'=>e=.returned (.string ⟨z.toArray⟩)∧Below w.heap.size w w' from (Tryz.strings_Repeat_main ⟨#[0]⟩ 16 w (by decide) (by decide) (by decide) (by decide)).mono (by
  rintro e w' ⟨rfl,hb⟩
  exact ⟨by rw [hz];rfl,hb⟩))
 have HZ:=Hh hz
 clear hz
 go_enter Tryz.func13,Tryz.ntmps13
 go_upto_region 3 with fail
 go_wp2_with (first
  | (go_at_call 29;refine HR.out.mono ?_;rintro ev w2 ⟨rfl,hb2⟩;have HB2:=Hh hb2;clear hb2)
  | (go_at_call 28;refine (qLY z n h1 h2 _ w2.heap.size (by simp) (zJ1 _ _ 0 _ _ _ (zK1 w2 _))).mono ?_;rintro ev w4 ⟨rfl,hown,hb4⟩;have HOWN:=Hh hown;have HB4:=Hh hb4;clear hown hb4)
  | fail)
 go_ret2
 have hs2:=HB2.out.size
 have hs4:=HB4.out.size
 have hz2:(w2.alloc (.cells #[.string ⟨z.toArray⟩] 9)).heap.size=w2.heap.size+1:=by simp
 have hb24:Below w2.heap.size w2 w4:=((zB _ w2).alloc (zq _) _).trans (HB4.out.mono (by simp))
 refine ⟨w4.heap.size,qAs (qAs c (w2.heap.size+1) .diskL) w4.heap.size .disk,by simp,(HB2.out.trans (hb24.mono hs2)).alloc (by have:=hb24.size;omega) _,⟨_,zK1 w4 _,qAm _ _ _,?_⟩,fun k hk=>?_⟩
 ·have h1:w4.ownsRow (w2.heap.size+1) 9 1 (.slice (some ⟨w2.heap.size+1,0,none⟩) n n) n (List.replicate n (encStr z)):=by
   have h:=HOWN.out
   rw [hz2] at h
   exact h
  simp only [List.length_replicate,List.map_replicate]
  rw [← HZ.out]
  refine RowAt.of_owns (h1.kept (Below.toGrown ((zB _ w4).alloc (zq _) _) none) (by cases Value.ownBlock (Value.slice (some ⟨w2.heap.size+1,0,none⟩) n n)<;>simp)) (fun k hk=>?_)
  simp [Value.ownBlock] at hk
  subst hk
  rw [qAf (k:=w2.heap.size+1) (n:=w4.heap.size) (h1.lt _ rfl).2 (zq _)]
  rw [qAm]
 ·have h4:=hb24.size
  rw [qAf (n:=w2.heap.size) (by omega) h4,qAf (n:=w2.heap.size) (by omega) (by omega)]
end Go.Proofs.YtceklhjomhjipaaGreatDoor
namespace Stl
structure RunOk (i:Nat) (s:Sto) (t:Tape):Prop where
 sto:qDY s
 disk:s.d.t.disk.length≤512
 inos:s.d.t.l.length≤200*i
 next:s.d.next≤i
 ents:s.d.l.length≤i
 off:t.off=false
 cut:t.cut=none
 len:t.b.length≤300*i
theorem qFR {n:Nat} (h:n≤512):RunOk 0 (Sto.new n) ⟨[],false,none⟩ :=
 ⟨qPV n,by show (List.replicate n _).length≤_;rw [List.length_replicate];exact h,zq _,zq _,zq _,rfl,rfl,zq _⟩
theorem qDv {i:Nat} {s:Sto} {t:Tape} (h:RunOk i s t) (hi:i≤300) {line:Bytes} (hl:line.length≤250):RunOk (i+1) (qAh s t line).2.1 (qAh s t line).2.2:=by
 have up:RunOk (i+1) s t:=⟨h.sto,h.disk,by have:=h.inos;omega,by have:=h.next;omega,by have:=h.ents;omega,h.off,h.cut,by have:=h.len;omega⟩
 unfold qAh
 cases hc:s.change line with
 | none=>exact up
 | some q =>
  cases q with
  | error e=>exact up
  | ok q =>
   obtain ⟨a,s1⟩:=q
   simp only
   rw [qB7 hl h.off h.cut (by have:=h.len;omega)]
   rw [zM1 rfl]
   have hr:=qBP hl
   have hz:=qJ7 hc
   show RunOk (i+1) s1 { t with b:=t.b++record line }
   refine ⟨qNb h.sto hc,by rw [hz.disk];exact h.disk,by have:=hz.inos;have:=h.inos;omega,by have:=hz.next;have:=h.next;omega,by have:=hz.ents;have:=h.ents;omega,h.off,h.cut,?_⟩
   have:=h.len
   simp only [zP]
   omega
def kl1:Bytes:=[97,100,100,32,97,32,102,50,58,120,121]
def kl2:Bytes:=[97,100,100,32,98,32,102,50,58,35,97]
def kl3:Bytes:=[114,101,102,115,32,98]
def kl4:Bytes:=[114,101,97,100,32,97,32,47]
def qRv (r:Except Nat Bytes) (a:Bytes):Bool:=match r with | .ok x=>x==a | .error _=>false
theorem qFy {r:Except Nat Bytes} {a:Bytes} (h:qRv r a=true):r=.ok a:=by
 cases r with
 | error e=>cases h
 | ok x=>exact congrArg Except.ok (eq_of_beq h)
def kP0:Sto×Tape:=(Sto.new 8,⟨[],false,none⟩)
def kD (p:Sto×Tape) (l:Bytes):Sto×Tape:=(qAh p.1 p.2 l).2
theorem qRx:(qAh kP0.1 kP0.2 kl1).1=.ok [111,107]:=qFy (by decide +kernel)
theorem qRs:(qAh (kD kP0 kl1).1 (kD kP0 kl1).2 kl2).1=.ok [111,107]:=qFy (by decide +kernel)
theorem qRA:(qAh (kD (kD kP0 kl1) kl2).1 (kD (kD kP0 kl1) kl2).2 kl3).1=.ok [97]:=qFy (by decide +kernel)
theorem qRp:(qAh (kD (kD (kD kP0 kl1) kl2) kl3).1 (kD (kD (kD kP0 kl1) kl2) kl3).2 kl4).1=.ok [120,121]:=qFy (by decide +kernel)
end Stl
namespace Go.Proofs.YtceklhjomhjipaaGreatDoor
open Go.RowKit Go.Sort Go.Shelf Stl
def qMZ (n:Nat) (w:World) (c:Nat→Col) (e:Ending) (w':World):Prop :=
 ∃ (b tp:Nat) (c2:Nat→Col),e=.returned (.tuple #[.pointer (some ⟨b,0,none⟩),.nilIface])∧w.heap.size≤b∧Ext w w' c c2 S0∧StoAt w' c2 b (Sto.new n) tp∧TapeAt w' c2 tp ⟨[],false,none⟩
theorem qEr (n:Nat) (h1:1≤n) (h2:n≤512) (w:World) (c:Nat→Col) :
  Calls Tryz.prog 6 #[.int .i64 n] w (qMZ n w c):=by
 have HDK:=Hh (qNw n h1 h2 w c)
 go_enter Tryz.func6,Tryz.ntmps6
 go_upto_region 4 with (go_at_call 13;refine HDK.out.mono ?_;rintro ev w1 ⟨b1,c1,rfl,hb1,hd1,hc1⟩;have HB1:=Hh hb1;have HD1:=Hh hd1;have HC1:=Hh hc1;have HTN:=Hh (qPw hd1 (by rw [List.length_replicate];exact h1) (by rw [List.length_replicate];exact h2));clear hb1 hd1 hc1)
 go_upto_region 7 with (go_at_call 14;refine HTN.out.mono ?_;rintro ev w2 ⟨b2,c2,rfl,hb2,ht2,hc2⟩;have HB2:=Hh hb2;have HC2:=Hh hc2;have HDN:=Hh (qPC ht2);clear hb2 ht2 hc2)
 go_upto_region 10 with (go_at_call 15;refine HDN.out.mono ?_;rintro ev w3 ⟨b3,c3,rfl,hb3,hd3,hc3⟩;have HB3:=Hh hb3;have HD3:=Hh hd3;have HC3:=Hh hc3;clear hb3 hd3 hc3)
 have HTP:=Hh (qMk [] (by simp) w3 c3)
 go_upto_region 13 with (go_at_call 16;refine HTP.out.mono ?_;rintro ev w4 ⟨b4,c4,rfl,hge4,he4,ht4⟩;have HE4:=Hh he4;have HT4:=Hh ht4;clear he4 ht4)
 have HB3':=Hh ((HB1.out.trans (HB2.out.mono HB1.out.size)).trans (HB3.out.mono (HB1.out.trans (HB2.out.mono HB1.out.size)).size))
 have e4:Ext w w4 c c4 S0:=((Ext.of_below HB3'.out c S0).recolor (fun k hk _=>(HC3.out k (zu hk (HB1.out.trans (HB2.out.mono HB1.out.size)).size)).trans ((HC2.out k (zu hk HB1.out.size)).trans (HC1.out k hk)))).trans HE4.out
 have HE:=Hh e4
 have HD4:=Hh (HD3.out.ext HE4.out rfl (fun _ _=>rfl))
 clear e4
 go_wp2
 go_ret2
 have ho:=zK1 w4 (.cells #[.pointer (some ⟨b3,0,none⟩),.slice none 0 0,.slice none 0 0,.pointer (some ⟨b4,0,none⟩)] 51)
 have em:=Ext.made w4 c4 S0 (.cells #[.pointer (some ⟨b3,0,none⟩),.slice none 0 0,.slice none 0 0,.pointer (some ⟨b4,0,none⟩)] 51) .sto
 refine ⟨_,_,_,rfl,HE.out.size,HE.out.trans em,?_,HT4.out.ext em rfl rfl⟩
 exact StoX.shut (zs:=[]) (A:=none) (cap:=0) (R:=none) (rc:=0) ⟨ho,qAm _ _ _,HD4.out.ext em rfl (fun _ _=>rfl),RowAt.nil _ _ _ _ _,rfl,by simp,RowAt.nil _ _ _ _ _⟩
end Go.Proofs.YtceklhjomhjipaaGreatDoor
