/- Texts of this claim, merged: StoAdd. -/
import Derived.Test.YtceklhjomhjipaaGreatDoorKm41
set_option maxHeartbeats 16000000
set_option maxRecDepth 1000000
set_option linter.all false
namespace Go.Proofs.YtceklhjomhjipaaGreatDoor
open Go.RowKit Go.Sort Go.Shelf Stl
def RwIn (w5 wx:World) (A:Option Addr) (cp:Nat) (rf:List (List UInt8)):Prop:=wx.ownsRow w5.heap.size 9 1 (.slice A rf.length cp) rf.length (rf.map encStr)∧Below w5.heap.size w5 wx
theorem qRg {w:World} {c:Nat→Col} {base:Nat} {A:Option Addr} {cap:Nat} {l:List (List UInt8)} (h:w.ownsRow base 9 1 (.slice A l.length cap) l.length (l.map encStr)) (hc:∀ k,base≤k→c k=.ro):RoStrs w c A l:=fun hn=>by
 have h0:0<l.length:=List.length_pos_iff.2 hn
 rcases h.2 with ⟨e,h1⟩ | ⟨g,cp,cur,e,h2,h3,_⟩
 ·omega
 ·injection e with e1 e2 e3
  subst e1
  refine ⟨g,0,rfl,qAa h3,hc g h2,fun j x hx=>?_⟩
  have hj:=(zM.1 hx).1
  rw [zw,h.cellAt j (by omega),zN,hx]
  rfl
def qQa (s:Sto) (rest:List UInt8):Except Nat (List UInt8×Sto):=(s.add rest).map fun x=>(bOk,x)
section
variable {w:World} {A:Option Addr} {zs:List PkX} {c:Nat→Col} {b:Nat} {s:Sto} {bd:Nat} {cap:Nat} {R:Option Addr} {rc tp:Nat} {p:Nat→Addr}
theorem qP3 (h:StoX w c b s bd A cap zs R rc tp) (hg:qAS s) (hE:Env w c p) (rest:List UInt8) (hr:rest.length≤1000000) :
  Calls Tryz.prog 38 #[.pointer (some ⟨b,0,none⟩),.string ⟨rest.toArray⟩] w (ChPost p w c b tp (qQa s rest)):=by
 have hfew:=h.few hg.ok
 have H:=Hh h
 have HG:=Hh hg
 have HE:=Hh hE
 have HAO:=Hh (show qQa s rest=(s.add rest).map fun x=>(bOk,x) from rfl)
 generalize qQa s rest=res at HAO ⊢
 obtain ⟨sa,hsa⟩:∃ sa,sa=s.add rest:=⟨_,rfl⟩
 rw [← hsa] at HAO
 unfold Sto.add at hsa
 have HTXT:=Hh (hE.errs.cell 1 (by decide) (by decide))
 clear h hg hE
 cases hc:cutAt 32 rest with
 | none =>
  rw [hc] at hsa
  simp only at hsa
  have HRS:=Hh (show res=.error 1 by rw [HAO.out,hsa];rfl)
  have HCUT:=Hh (qE8 32 hc (by omega) w HE.out.max)
  clear hc hsa
  go_enter Tryz.func38,Tryz.ntmps38
  go_upto_region 3 with (go_at_call 37;refine HCUT.out.mono ?_;rintro ev w1 ⟨rfl,hb1⟩;have HB1:=Hh hb1;clear hb1)
  have hg:w1.cell? ⟨3,0,none⟩=some (.iface 377 (.pointer (some (p 1)))):=((HE.out.errs.later HB1.out).cell 1 (by decide) (by decide)).trans (by rw [qAc p (by decide)])
  go_quiet (fail)
  go_wp2
  go_ret2
  rw [HRS.out]
  exact ⟨_,_,c,rfl,Ext.of_below (Below.drewN HB1.out _) c qDx,by rw [qAc p (by decide)];rfl,by decide⟩
 | some q =>
  obtain ⟨name,text⟩:=q
  rw [hc] at hsa
  simp only at hsa
  have hnl:=qDV 32 hc
  have HCUT:=Hh (qDh 32 hc (by omega) w HE.out.max)
  have HNM:=Hh (fun W:World=>qDp name W (by omega))
  clear hc
  go_enter Tryz.func38,Tryz.ntmps38
  go_upto_region 4 with (go_at_call 37;refine HCUT.out.mono ?_;rintro ev w1 ⟨rfl,hb1⟩;have HB1:=Hh hb1;clear hb1)
  cases hnm:isName name with
  | false =>
   rw [hnm] at HNM
   rw [hnm,zM1 rfl] at hsa
   have HRS:=Hh (show res=.error 5 by rw [HAO.out,hsa];rfl)
   clear hnm hsa
   go_upto_region 5 with (go_at_call 74;refine (HNM.out _).mono ?_;rintro ev w2 ⟨rfl,hb2⟩;have HB2:=Hh (HB1.out.trans (hb2.mono HB1.out.size));clear hb2)
   have hg:w2.cell? ⟨5,0,none⟩=some (.iface 377 (.pointer (some (p 5)))):=((HE.out.errs.later HB2.out).cell 5 (by decide) (by decide)).trans (by rw [qAc p (by decide)])
   go_quiet (fail)
   go_wp2
   go_ret2
   rw [HRS.out]
   exact ⟨_,_,c,rfl,Ext.of_below (Below.drewN HB2.out _) c qDx,by rw [qAc p (by decide)];rfl,by decide⟩
  | true =>
   rw [hnm] at HNM
   rw [hnm,zL1 (by decide)] at hsa
   have HISN:=Hh hnm
   clear hnm
   go_upto_region 6 with (go_at_call 74;refine (HNM.out _).mono ?_;rintro ev w2 ⟨rfl,hb2⟩;have HB2:=Hh (HB1.out.trans (hb2.mono HB1.out.size));clear hb2)
   have HFD:=Hh (qDm (H.out.below HB2.out) (by omega) name)
   cases hf:s.find name with
   | some pk =>
    rw [hf,zM1 (show (some pk).isSome=true from rfl)] at hsa
    have HRS:=Hh (show res=.error 7 by rw [HAO.out,hsa];rfl)
    have HF:=Hh hf
    clear hf hsa
    go_upto_region 7 with (go_at_call 68;refine HFD.out.mono ?_;rintro ev w3 ⟨⟨i,rfl,hi⟩,hb3⟩;obtain ⟨ki,hki,rfl,_⟩:=hi.some_ H.out.eq HG.out.ok.pks.names HF.out;have HB3:=Hh (HB2.out.trans (hb3.mono HB2.out.size));clear hb3 hi)
    have hg:w3.cell? ⟨6,0,none⟩=some (.iface 377 (.pointer (some (p 7)))):=((HE.out.errs.later HB3.out).cell 7 (by decide) (by decide)).trans (by rw [qAc p (by decide)])
    go_quiet (fail)
    go_wp2
    go_ret2
    rw [HRS.out]
    exact ⟨_,_,c,rfl,Ext.of_below (Below.drewN HB3.out _) c qDx,by rw [qAc p (by decide)];rfl,by decide⟩
   | none =>
    rw [hf,zL1 (show ¬ (none:Option Pk).isSome=true by decide)] at hsa
    have HF:=Hh hf
    clear hf
    go_upto_region 8 with (go_at_call 68;refine HFD.out.mono ?_;rintro ev w3 ⟨⟨i,rfl,hi⟩,hb3⟩;have hneg:=(hi.none_ H.out.eq).1 HF.out;have HB3:=Hh (HB2.out.trans (hb3.mono HB2.out.size));clear hb3 hi)
    have HX3:=Hh (H.out.below HB3.out)
    have c1:=ce1 HX3.out.own
    have hlen:=H.out.len
    by_cases h40:40≤s.l.length
    ·rw [zM1 h40] at hsa
     have HRS:=Hh (show res=.error 8 by rw [HAO.out,hsa];rfl)
     have i1:(40:Int)≤(zs.length:Int):=by omega
     clear hsa hlen h40
     go_upto_region 9 with fail
     have hg:w3.cell? ⟨4,0,none⟩=some (.iface 377 (.pointer (some (p 8)))):=((HE.out.errs.later HB3.out).cell 8 (by decide) (by decide)).trans (by rw [qAc p (by decide)])
     clear c1
     go_quiet (fail)
     go_wp2
     go_ret2
     rw [HRS.out]
     exact ⟨_,_,c,rfl,Ext.of_below (Below.drewN HB3.out _) c qDx,by rw [qAc p (by decide)];rfl,by decide⟩
    ·rw [zL1 h40] at hsa
     have i1:¬ (40:Int)≤(zs.length:Int):=by omega
     have HPR:=Hh (qMB (p:=p) text (by omega) w3 (HE.out.errs.later HB3.out) (HE.out.vars.later HB3.out))
     have HLEN:=Hh hlen
     have H40:=Hh h40
     clear hlen h40
     unfold qIF at HPR
     cases hrt:qBe text with
     | error cd =>
      rw [hrt] at hsa HPR
      simp only at hsa HPR
      have HRS:=Hh (show res=.error cd by rw [HAO.out,hsa];rfl)
      clear hrt hsa
      go_upto_region 11 with (go_at_call 75;refine HPR.out.mono ?_;rintro ev w4 ⟨hb4,a0,a1,a2,A4,m4,cp4,er,rfl,rfl,hcd⟩;have HB4:=Hh (HB3.out.trans (hb4.mono HB3.out.size));have HEO:=Hh (qAc p hcd);have HCD:=Hh hcd;clear hb4 hcd)
      rw [HEO.out]
      have HB5:=Hh (HB4.out.alloc HB4.out.size (.cells #[.string a0,.string a1,.bool a2,.slice A4 m4 cp4] 114))
      go_wp2_with fail
      go_ret2
      rw [HRS.out]
      exact ⟨_,_,c,rfl,Ext.of_below HB5.out c qDx,by rw [HEO.out];rfl,HCD.out⟩
     | ok nd =>
      rw [hrt] at hsa HPR
      simp only at hsa HPR
      clear hrt
      go_upto_region 13 with (go_at_call 75;refine HPR.out.mono ?_;rintro ev w4 ⟨hb4,a0,a1,a2,A4,m4,cp4,er,rfl,rfl,hn4⟩;have HB34:=Hh hb4;have HB4:=Hh (HB3.out.trans (hb4.mono HB3.out.size));have HN4:=Hh hn4;clear hb4 hn4)
      have hb5:=(zB w4.heap.size w4).alloc (zq _) (.cells #[.string a0,.string a1,.bool a2,.slice A4 m4 cp4] 114)
      have HY5:=Hh (zK1 w4 (.cells #[.string a0,.string a1,.bool a2,.slice A4 m4 cp4] 114))
      have HB45:=Hh hb5
      have HB5:=Hh (HB4.out.alloc HB4.out.size (.cells #[.string a0,.string a1,.bool a2,.slice A4 m4 cp4] 114))
      have HB35:=Hh (HB34.out.trans (hb5.mono HB34.out.size))
      clear hb5 c1
      generalize w4.alloc (.cells #[.string a0,.string a1,.bool a2,.slice A4 m4 cp4] 114)=w5 at *
      have HX5:=Hh (H.out.below HB5.out)
      have HNS:=Hh (fun (W:World) (hb:Below w5.heap.size w5 W)=>qGU (HX5.out.below hb) (by omega))
      have hlt5:=qAa HY5.out
      have q0:=ce0 HY5.out
      have q1:=ce1 HY5.out
      have q2:=ce2 HY5.out
      have q3:=ce3 HY5.out
      have HNE:=Hh (show s.l.map (·.name)=zs.map (·.p.name) by rw [← H.out.eq,zW];rfl)
      rw [HNE.out] at hsa
      have hnml:(zs.map (·.p.name)).length=zs.length:=zT _
      have HSA:=Hh hsa
      clear hsa
      generalize hns:zs.map (·.p.name)=ns at *
      clear hns
      have HREF:=Hh (fun (W:World) (v:Value) (hb:Below w5.heap.size w5 W) (hs:Strs W v (ns++[name]))=>(qOA p nd [.string a0,.string a1,.bool a2,.slice A4 m4 cp4] v (ns++[name]) (by simp;omega) W (HE.out.errs.later (HB5.out.trans (hb.mono HB5.out.size))) (NodeAt.later (HB45.out.trans (hb.mono HB45.out.size)) _ _ (NodeP.at _ _ HN4.out)) hs:Calls Tryz.prog 76 #[.agg #[.string a0,.string a1,.bool a2,.slice A4 m4 cp4],v] W _))
      generalize refsIn nd (ns++[name])=rf at HREF HSA
      obtain ⟨i0,hi,hz0,hz1,hz2⟩:=qGB
      have Hi:=Hh hi
      have Hz0:=Hh hz0
      have Hz1:=Hh hz1
      have Hz2:=Hh hz2
      clear hi hz0 hz1 hz2
      have hd1:=(zB w5.heap.size w5).drew
      have hd2:=((zB w5.heap.size w5).alloc (zq _) (.cells #[.string ⟨name.toArray⟩] 9)).drew
      have HHD:=Hh hd1
      have HHA:=Hh hd2
      have HNC:=Hh (show (w5.alloc (.cells #[.string ⟨name.toArray⟩] 9)).drew.cell? ⟨w5.heap.size,0,none⟩=some (.string ⟨name.toArray⟩) from zJ1 _ _ 0 _ _ _ (zK1 w5 (.cells #[.string ⟨name.toArray⟩] 9)))
      have hnl2:ns.length≤40:=by omega
      clear hnml hd1 hd2
      go_cut [11] (fun v wx=>∃ (A9:Option Addr) (cp9:Nat),v=.slice A9 rf.length cp9∧Hid (RwIn w5 wx A9 cp9 rf))
      case first =>
       have s0:=q0
       have s1:=q1
       have s2:=q2
       have s3:=q3
       have r0:(w5.alloc (.cells #[.string ⟨name.toArray⟩] 9)).drew.cell? ⟨w4.heap.size,0,none⟩=some (.string a0):=(HHA.out.cell (p:=⟨w4.heap.size,0,none⟩) hlt5).trans q0
       have r1:(w5.alloc (.cells #[.string ⟨name.toArray⟩] 9)).drew.cell? ⟨w4.heap.size,1,none⟩=some (.string a1):=(HHA.out.cell (p:=⟨w4.heap.size,1,none⟩) hlt5).trans q1
       have r2:(w5.alloc (.cells #[.string ⟨name.toArray⟩] 9)).drew.cell? ⟨w4.heap.size,2,none⟩=some (.bool a2):=(HHA.out.cell (p:=⟨w4.heap.size,2,none⟩) hlt5).trans q2
       have r3:(w5.alloc (.cells #[.string ⟨name.toArray⟩] 9)).drew.cell? ⟨w4.heap.size,3,none⟩=some (.slice A4 m4 cp4):=(HHA.out.cell (p:=⟨w4.heap.size,3,none⟩) hlt5).trans q3
       go_region_law
        (first
         | (refine Stl.step_app _ (by rfl) (.tmp 52) (.tmp 54) 22 (by rfl) w5.heap.size 9 i0 (.string ByteArray.empty) 1 16 Tryz.underlying22 Hi.out Hz0.out Hz1.out Hz2.out rfl (by decide) (.slice A6 ns.length cp6) ns.length (ns.map encStr) (by rfl) HO7.out (some ⟨w6.heap.size,0,none⟩) 1 1 [.string ⟨name.toArray⟩] (by rfl) (by simp) (fun h=>by cases h) (qAH _ _ _) (by simp [Value.oneCell']) (by unfold maxLen;omega) (by omega) (zr HB56.out.size (by simp)) ?_;intro A8 cp8 w8 hown8 hgr8 _;have hb8:Below w5.heap.size w5 w8:=(HB56.out.alloc HB56.out.size _).grown hgr8 (zr HB56.out.size (by simp)) (fun k hk=>(HO7.out.lt k hk).1);have HB58:=Hh hb8;have HO8:=Hh hown8;clear hown8 hgr8;have s0:=(hb8.cell (p:=⟨w4.heap.size,0,none⟩) hlt5).trans q0;have s1:=(hb8.cell (p:=⟨w4.heap.size,1,none⟩) hlt5).trans q1;have s2:=(hb8.cell (p:=⟨w4.heap.size,2,none⟩) hlt5).trans q2;have s3:=(hb8.cell (p:=⟨w4.heap.size,3,none⟩) hlt5).trans q3;clear hb8)
         | (refine Stl.step_app _ (by rfl) (.tmp 52) (.tmp 54) 22 (by rfl) w5.heap.size 9 i0 (.string ByteArray.empty) 1 16 Tryz.underlying22 Hi.out Hz0.out Hz1.out Hz2.out rfl (by decide) (.slice A6 ns.length cp6) ns.length (ns.map encStr) (by rfl) HO6.out (some ⟨w5.heap.size,0,none⟩) 1 1 [.string ⟨name.toArray⟩] (by rfl) (by simp) (fun h=>by cases h) (fun ad ha j u hu=>by { injection ha with ha;have hj:j=0:=(by have:=(zM.1 hu).1;simpa using this);subst hj;have hu2:u=.string ⟨name.toArray⟩:=(by simpa using hu.symm);rw [← ha,hu2];exact HNC6.out }) (by simp [Value.oneCell']) (by unfold maxLen;omega) (by omega) HB56.out.size ?_;intro A8 cp8 w8 hown8 hgr8 _;have hb8:Below w5.heap.size w5 w8:=HB56.out.grown hgr8 HB56.out.size (fun k hk=>(HO6.out.lt k hk).1);have HB58:=Hh hb8;have HO8:=Hh hown8;clear hown8 hgr8;have s0:=(hb8.cell (p:=⟨w4.heap.size,0,none⟩) hlt5).trans q0;have s1:=(hb8.cell (p:=⟨w4.heap.size,1,none⟩) hlt5).trans q1;have s2:=(hb8.cell (p:=⟨w4.heap.size,2,none⟩) hlt5).trans q2;have s3:=(hb8.cell (p:=⟨w4.heap.size,3,none⟩) hlt5).trans q3;clear hb8)
         | (go_simp;go_at_call 77;refine (HNS.out _ HHD.out).mono ?_;rintro ev w6 ⟨A6,cp6,rfl,hr6,hb6'⟩;have hb6:Below w5.heap.size w5 w6:=HHD.out.trans hb6';clear hb6';have HB56:=Hh hb6;have HO6:=Hh (show w6.ownsRow w5.heap.size 9 1 (.slice A6 ns.length cp6) ns.length (ns.map encStr) from hr6);have HO7:=Hh (HO6.out.alloc (.cells #[.string ⟨name.toArray⟩] 9));have s0:=(hb6.cell (p:=⟨w4.heap.size,0,none⟩) hlt5).trans q0;have s1:=(hb6.cell (p:=⟨w4.heap.size,1,none⟩) hlt5).trans q1;have s2:=(hb6.cell (p:=⟨w4.heap.size,2,none⟩) hlt5).trans q2;have s3:=(hb6.cell (p:=⟨w4.heap.size,3,none⟩) hlt5).trans q3;have hb6a:Below w5.heap.size w5 (w6.alloc (.cells #[.string ⟨name.toArray⟩] 9)):=hb6.alloc hb6.size _;have t0:(w6.alloc (.cells #[.string ⟨name.toArray⟩] 9)).cell? ⟨w4.heap.size,0,none⟩=some (.string a0):=(hb6a.cell (p:=⟨w4.heap.size,0,none⟩) hlt5).trans q0;have t1:(w6.alloc (.cells #[.string ⟨name.toArray⟩] 9)).cell? ⟨w4.heap.size,1,none⟩=some (.string a1):=(hb6a.cell (p:=⟨w4.heap.size,1,none⟩) hlt5).trans q1;have t2:(w6.alloc (.cells #[.string ⟨name.toArray⟩] 9)).cell? ⟨w4.heap.size,2,none⟩=some (.bool a2):=(hb6a.cell (p:=⟨w4.heap.size,2,none⟩) hlt5).trans q2;have t3:(w6.alloc (.cells #[.string ⟨name.toArray⟩] 9)).cell? ⟨w4.heap.size,3,none⟩=some (.slice A4 m4 cp4):=(hb6a.cell (p:=⟨w4.heap.size,3,none⟩) hlt5).trans q3;clear hr6 hb6 hb6a)
         | (go_simp;go_at_call 77;refine (HNS.out _ HHA.out).mono ?_;rintro ev w6 ⟨A6,cp6,rfl,hr6,hb6'⟩;have hb6:Below w5.heap.size w5 w6:=HHA.out.trans (hb6'.mono HHA.out.size);have HNC6:=Hh ((hb6'.cell (p:=⟨w5.heap.size,0,none⟩) (by simp)).trans HNC.out);clear hb6';have HB56:=Hh hb6;have HO6:=Hh (show w6.ownsRow w5.heap.size 9 1 (.slice A6 ns.length cp6) ns.length (ns.map encStr) from hr6.mono (by simp));have s0:=(hb6.cell (p:=⟨w4.heap.size,0,none⟩) hlt5).trans q0;have s1:=(hb6.cell (p:=⟨w4.heap.size,1,none⟩) hlt5).trans q1;have s2:=(hb6.cell (p:=⟨w4.heap.size,2,none⟩) hlt5).trans q2;have s3:=(hb6.cell (p:=⟨w4.heap.size,3,none⟩) hlt5).trans q3;clear hr6 hb6)
         | (go_simp;go_at_call 76;refine (HREF.out w8 _ HB58.out (by have h8:=HO8.out;exact qAQ (n:=ns.length+1) (base:=w5.heap.size) (by simpa using h8))).mono ?_;rintro ev w9 ⟨A9,cp9,rfl,hr9,hb9⟩;have HR9:=Hh hr9;have HB89:=Hh hb9;clear hr9 hb9)
         | fail)
       all_goals
        have HFIN:=Hh (show RwIn w5 w9 A9 cp9 rf from ⟨HR9.out.mono HB58.out.size,HB58.out.trans (HB89.out.mono HB58.out.size)⟩)
        clear s0 s1 s2 s3 q0 q1 q2 q3
        go_wp2
        go_meet
        case rel=>exact ⟨A9,cp9,rfl,HFIN⟩
      case rest =>
       obtain ⟨A9,cp9,rfl,HFIN⟩:=hcut
       have HBC:=Hh (HB5.out.trans (HFIN.out.2.mono HB5.out.size))
       have hbnw:=HB45.out.trans (HFIN.out.2.mono HB45.out.size)
       have HNB:=Hh ((HFIN.out.2.block _ hlt5).trans HY5.out)
       have hE8:=hbnw
       obtain ⟨c8,hc8⟩:∃ c8:Nat→Col,c8=fun k=>if k<w.heap.size then c k else .ro:=⟨_,rfl⟩
       have he8:Ext w wc c c8 S0:=(Ext.of_below HBC.out c S0).recolor fun k hk _=>by { rw [hc8];exact zM1 hk }
       have hhi:∀ k,w.heap.size≤k→c8 k=.ro:=fun k hk=>by { rw [hc8];exact zL1 (Nat.not_lt.2 hk) }
       have HN8:=Hh (show RoNode wc c8 nd _ from NodeP.go hbnw.size (fun k hk hO=>⟨hbnw.block k hk,hhi k (zr HB3.out.size hO)⟩) _ _ HN4.out)
       have HR8:=Hh (show RoStrs wc c8 A9 rf from qRg HFIN.out.1 (fun k hk=>hhi k (zr HB5.out.size hk)))
       have HCP:=Hh (qBG HFIN.out.1)
       have HE8:=Hh he8
       have HX8:=Hh (H.out.ext he8 rfl (fun _ _=>rfl))
       have HEN:=Hh (HE.out.ext he8 rfl)
       clear hc8 he8 hhi hbnw hE8 q0 q1 q2 q3 HCUT HNM HFD HNS HREF HHD HHA HNC HFIN
       by_cases h20:20<rf.length
       ·have HRS:=Hh (show res=.error 8 by rw [HAO.out,HSA.out,zM1 h20];rfl)
        have j1:(20:Int)<(rf.length:Int):=by omega
        clear h20
        go_upto_region 15 with fail
        have hg:wc.cell? ⟨4,0,none⟩=some (.iface 377 (.pointer (some (p 8)))):=(HEN.out.errs.cell 8 (by decide) (by decide)).trans (by rw [qAc p (by decide)])
        go_quiet (fail)
        go_wp2
        go_ret2
        rw [HRS.out]
        exact ⟨_,_,c,rfl,Ext.of_below (Below.drewN HBC.out _) c qDx,by rw [qAc p (by decide)];rfl,by decide⟩
       ·have j1:¬ (20:Int)<(rf.length:Int):=by omega
        have HSB:=Hh (HSA.out.trans (zL1 h20))
        clear h20 HSA
        go_upto_region 16 with fail
        have c0:=ce0 HX8.out.own
        have q0:=ce0 HNB.out
        have q1:=ce1 HNB.out
        have q2:=ce2 HNB.out
        have q3:=ce3 HNB.out
        cases hput:s.d.put nd with
        | error cd =>
         rw [hput] at HSB
         have HRS:=Hh (show res=.error cd by rw [HAO.out,HSB.out];rfl)
         have HPB:=Hh (fun (W:World) (hb:Below wc.heap.size wc W)=>qQA (HX8.out.below hb).dirs HG.out.good (HEN.out.below hb) (NodeAt.later hb _ _ (NodeP.at _ _ HN8.out)) hput)
         clear hput
         have hdr:=(zB wc.heap.size wc).drew
         have HDR:=Hh hdr
         clear hdr
         go_region_law
          (first
           | (go_simp;go_at_call 78;refine (HPB.out _ (zB _ _)).mono ?_;rintro ev w6 ⟨rfl,hcd,hb6⟩;have HB6:=Hh hb6;have HCD:=Hh hcd;have HEO:=Hh (qAc p hcd);clear hb6 hcd)
           | (go_simp;go_at_call 78;refine (HPB.out _ HDR.out).mono ?_;rintro ev w6 ⟨rfl,hcd,hb6'⟩;have hb6:Below wc.heap.size wc w6:=HDR.out.trans hb6';clear hb6';have HB6:=Hh hb6;have HCD:=Hh hcd;have HEO:=Hh (qAc p hcd);clear hb6 hcd)
           | fail)
         all_goals
          rw [HEO.out]
          clear c0 q0 q1 q2 q3
          go_wp2
          go_ret2
          rw [HRS.out]
          exact ⟨_,_,c,rfl,Ext.of_below (HBC.out.trans (HB6.out.mono HBC.out.size)) c qDx,by rw [HEO.out];rfl,HCD.out⟩
        | ok q =>
         obtain ⟨kk,d'⟩:=q
         rw [hput] at HSB
         have HRS:=Hh (show res=.ok (bOk,{ d:=d',l:=s.l++[⟨name,rf,kk⟩],roots:=s.roots }) by rw [HAO.out,HSB.out];rfl)
         have HPB:=Hh (fun (W:World) (hb:Below wc.heap.size wc W)=>qQJ (HX8.out.below hb).dirs HG.out.good HG.out.room (HEN.out.below hb) (HN8.out.ext (Ext.of_below hb c8 S0) rfl) hput)
         clear hput
         have hdr:=(zB wc.heap.size wc).drew
         have HDR:=Hh hdr
         clear hdr
         obtain ⟨i1,hi,hz0,hz1,hz2⟩:=qEl.info
         have Hi1:=Hh hi
         have Hy0:=Hh hz0
         have Hy1:=Hh hz1
         have Hy2:=Hh hz2
         clear hi hz0 hz1 hz2
         go_region_law
          (first
           | (go_simp;go_at_call 78;refine (HPB.out _ (zB _ _)).mono ?_;rintro ev w6 ⟨rfl,c6,he6,hd6⟩;have HE6:=Hh he6;have HD6:=Hh hd6;clear he6 hd6)
           | (go_simp;go_at_call 78;refine (HPB.out _ HDR.out).mono ?_;rintro ev w6 ⟨rfl,c6,he6',hd6⟩;have he6:Ext wc w6 c8 c6 qDz:=(Ext.of_below HDR.out c8 qDz).trans he6';have HE6:=Hh he6;have HD6:=Hh hd6;clear he6 he6' hd6)
           | fail)
         all_goals
          have HX6:=Hh (HX8.out.redirs HE6.out HD6.out)
          have HR6:=Hh (HR8.out.ext HE6.out rfl)
          clear c0 q0 q1 q2 q3
          have c1:=ce1 HX6.out.own
          have HRK:=Hh (HX6.out.packs.1.alloc (.cells #[.string ⟨name.toArray⟩,.slice A9 rf.length cp9,.int .i64 kk] 93))
          go_wp2_with (at_builtin;refine Stl.wpList_app _ rfl (.tmp 77) (.tmp 82) 49 rfl 0 93 i1 (.agg #[.string ⟨#[]⟩,.slice none 0 0,.int .i64 0]) 3 48 Tryz.underlying49 Hi1.out Hy0.out Hy1.out Hy2.out rfl (by decide) (.slice A zs.length cap) zs.length (zs.flatMap qA6) rfl HRK.out (some ⟨w6.heap.size,0,none⟩) 1 1 [.string ⟨name.toArray⟩,.slice A9 rf.length cp9,.int .i64 kk] rfl rfl (fun h=>by cases h) (qAH _ _ _) (by simp [Value.oneCell']) (by unfold maxLen;omega) (by omega) (zx _) ?_;intro A7 cp7 w7 hown7 hgr7 hat7;obtain ⟨hr7,he7⟩:=RowAt.grown (show RowAt (w6.alloc (.cells #[.string ⟨name.toArray⟩,.slice A9 rf.length cp9,.int .i64 kk] 93)) c6 .stoL 93 3 (.slice A zs.length cap) zs.length (zs.flatMap qA6) from HX6.out.packs.ext ((Ext.refl w6 c6 S0).alloc _) rfl) hown7 hgr7 hat7;have HR7:=Hh hr7;have HE7:=Hh (((Ext.refl w6 c6 (S1 .stoL)).alloc (.cells #[.string ⟨name.toArray⟩,.slice A9 rf.length cp9,.int .i64 kk] 93)).trans he7);have hb7:=(HE7.out.kept HX6.out.own HX6.out.col rfl).1;have f1:w7.frozen? ⟨b,1,none⟩=false:=qAb hb7 1;have d1:w7.cell? ⟨b,1,none⟩=some (.slice A zs.length cap):=zJ1 w7 b 1 _ _ _ hb7;clear hown7 hgr7 hat7 hr7 he7 hb7)
          go_ret2
          rw [HRS.out]
          obtain ⟨p1,p2⟩:=HX6.out.relist HE7.out (A':=A7) (cap':=cp7) (zs':=zs++[⟨⟨name,rf,kk⟩,A9,cp9⟩]) (by simpa [qA6] using HR7.out) (fun x hx=>by
           rcases zX.1 hx with h1 | h1
           ·exact ⟨(HX6.out.ro x h1).1,(HX6.out.ro x h1).2.ext HE7.out rfl⟩
           ·rw [zh.1 h1]
            exact ⟨HCP.out,HR6.out.ext HE7.out rfl⟩)
          rw [show (zs++[(⟨⟨name,rf,kk⟩,A9,cp9⟩:PkX)]).length=zs.length+1 by simp] at p1 p2
          refine ⟨_,_,_,rfl,(((HE8.out.mono qPP).then HE6.out qD8).then HE7.out (qAE rfl)).then p2 (qAE rfl),rfl,rfl,?_⟩
          have p3:=p1.shut
          rw [zU,HX6.out.eq] at p3
          exact p3
end
end Go.Proofs.YtceklhjomhjipaaGreatDoor
