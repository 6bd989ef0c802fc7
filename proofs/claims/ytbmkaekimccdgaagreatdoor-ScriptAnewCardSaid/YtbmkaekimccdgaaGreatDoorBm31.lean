/- Lemmas. -/
import Derived.Test.YtbmkaekimccdgaaGreatDoorBm30
set_option maxHeartbeats 16000000
set_option maxRecDepth 1000000
set_option linter.all false
namespace Go.Proofs.YtbmkaekimccdgaaGreatDoor
open Go.RowKit Go.Sort Go.Shelf Stl
def vQ (s:List UInt8)(l:List PX):List (List UInt8):=(l.filter fun y=>y.p.name != s&&y.p.refs.contains s).map (·.p.name)
theorem qGm (s:List UInt8)(l:List PX)(y:PX):vQ s (l++[y])=vQ s l++(if (y.p.name != s&&y.p.refs.contains s)=true then [y.p.name] else []):=by
 unfold vQ;rw[List.filter_append,zU]
 cases h:(y.p.name != s&&y.p.refs.contains s) with
 | true=>rw[zM1 rfl,zK (p:=fun y:PX=>y.p.name != s&&y.p.refs.contains s) h];rfl
 | false=>rw[zL1 (by decide),zJ (p:=fun y:PX=>y.p.name != s&&y.p.refs.contains s) (by simp only[h];decide)];rfl
theorem qGi (zs:List PX)(hn:(zs.map (·.p.name)).Nodup)(s:List UInt8):(vQ s zs).mergeSort leB=insAll (vQ s zs) []:=by
 have h1:(vQ s zs).Nodup:=(List.filter_sublist.map _).nodup hn;have hr:Stl.Rise (insAll (vQ s zs) []):=rise_insAll _ _ rise_nil;have h2:(insAll (vQ s zs) []).Nodup:=List.Pairwise.imp (R:=(·<·)) (S:=(·≠·)) (fun {a b} h (e:a=b)=>Stl.blt_irrefl a (e▸h)) hr;have hp:(vQ s zs).Perm (insAll (vQ s zs) []):=(List.perm_ext_iff_of_nodup h1 h2).2 fun x=>by rw[mem_insAll];simp
 rw[mergeSort_of_perm hp];refine List.mergeSort_of_pairwise (hr.imp fun h=>?_);simpa using List.le_of_lt h
theorem qEm (s:List UInt8)(l:List PX):(vQ s l).length≤l.length:=by
 unfold vQ;rw[zT];exact zS _ _
theorem qIF (zs:List PX)(s:List UInt8):insAll (vQ s zs) []=nD (zs.map (·.p)) s:=by
 unfold vQ nD;rw[List.filter_map,zW];rfl
theorem qJW {w:World}{A:Option Addr}{zs:List PX}(h:PacksAt w A zs)(hP:nY (zs.map (·.p)))(cap:Nat)(hcap:zs.length≤cap)(s:List UInt8)(hin:s∈zs.map (·.p.name)) :
  Calls Tryz.prog 134 #[.slice A zs.length cap,.string ⟨s.toArray⟩] w (qHg w (nD (zs.map (·.p)) s)):=by
 have HP:=Hh hP;have H:=Hh h;have HIN:=Hh hin;have hmany:zs.length≤40:=by have:=hP.many;simpa using this
 have HCK:=Hh (qEQ h hP cap hcap);have HUS:=Hh (qIF zs s);generalize nD (zs.map (·.p)) s=res at HUS ⊢;have HBN:=Hh (fun (W:World) (hb:Below w.heap.size w W)=>qEU (h.later (hb.alloc hb.size (.cells #[.string ⟨s.toArray⟩] 9))) hP cap (w:=W.alloc (.cells #[.string ⟨s.toArray⟩] 9)) (An:=some ⟨W.heap.size,0,none⟩) (cn:=1) (names:=[s]) ⟨_,_,rfl,fun _=>⟨W.heap.size,0,rfl,by simp,fun j x hx=>by
  have hj:j=0:=by have:=(zM.1 hx).1;simpa using this
  subst hj
  have hx':x=s:=by simpa using hx.symm
  rw[hx',zv]
  exact zJ1 _ _ 0 _ _ _ (zK1 W (.cells #[.string ⟨s.toArray⟩] 9))⟩⟩ (by simp) (fun x hx=>by rw[zg.1 hx];exact hin))
 simp only[zQ,List.length_nil,zv] at HBN;obtain⟨i0,hi,hz0,hz1,hz2⟩:=pO;have Hi:=Hh hi;have Hz0:=Hh hz0;have Hz1:=Hh hz1;have Hz2:=Hh hz2;clear hP h hin hi hz0 hz1 hz2;go_enter Tryz.func134,Tryz.ntmps134;go_upto_region 9 with (first
  | (go_at_call 190;refine HCK.o.mono ?_;rintro ev w2 ⟨rfl,hb2⟩;have HB2:=Hh hb2;clear hb2)
  | (go_at_call 191;refine(HBN.o _ HB2.o).mono ?_;rintro ev w3 ⟨bm,rfl,hm3,hb3⟩;have HB3:=Hh ((HB2.o.alloc HB2.o.size (.cells #[.string ⟨s.toArray⟩] 9)).trans (hb3.mono (zq HB2.o.size (by simp))));clear hm3 hb3)
  | fail)
 go_loopw [9,29] (fun v a wr=>∃ (j:Nat),a=.int .i64 j∧j≤zs.length∧Hg (Below w.heap.size w wr)∧Hg (wr.ownsRow w.heap.size 9 1 v (vQ s (zs.take j)).length ((vQ s (zs.take j)).map encStr))) (fun _ a _=>zs.length-(intOf a).toNat)
 case atStart=>exact⟨0,rfl,zw _,HB3,Hh (zF1 _ _ _ _)⟩
 case round =>
  obtain⟨j,rfl,hj,HB,HO⟩:=hrel;have hul:=zq (qEm s (zs.take j)) (List.length_take_le _ _);by_cases hjl:j<zs.length
  ·have i1:(j:Int)<(zs.length:Int):=by omega
   have i2:(0:Int)≤(j:Int):=by omega
   obtain⟨b,off,hA,hb',s0,s1,s2,s3,s4,s5⟩:=(H.o.later HB.o).at hjl;subst hA;have HTK:=Hh (show vQ s (zs.take (j+1))=vQ s (zs.take j)++(if (zs[j].p.name != s&&zs[j].p.refs.contains s)=true then [zs[j].p.name] else []) by rw[zn hjl];exact qGm s (zs.take j) zs[j]);have HRF:=Hh (H.o.refs _ (zO hjl));have hyr:zs[j].p.refs.length≤1000000:=by have:=HP.o.few zs[j].p (zb.2 ⟨_,zO hjl,rfl⟩);omega
   generalize zs[j]=y at *;have hb5:=(zB wr.heap.size wr).alloc (zo _) (.cells #[.string ⟨y.p.name.toArray⟩,.slice y.a y.p.refs.length y.cap,.string y.t0,.string y.t1,.bool y.t2,.slice y.t3 y.t4 y.t5] 260);have HY5:=Hh (zK1 wr (.cells #[.string ⟨y.p.name.toArray⟩,.slice y.a y.p.refs.length y.cap,.string y.t0,.string y.t1,.bool y.t2,.slice y.t3 y.t4 y.t5] 260));have HB5:=Hh (HB.o.alloc HB.o.size (.cells #[.string ⟨y.p.name.toArray⟩,.slice y.a y.p.refs.length y.cap,.string y.t0,.string y.t1,.bool y.t2,.slice y.t3 y.t4 y.t5] 260));have HO5:=Hh (HO.o.alloc (.cells #[.string ⟨y.p.name.toArray⟩,.slice y.a y.p.refs.length y.cap,.string y.t0,.string y.t1,.bool y.t2,.slice y.t3 y.t4 y.t5] 260));clear hb5;go_upto_region 11 with fail;clear s0 s1 s2 s3 s4 s5;generalize wr.alloc (.cells #[.string ⟨y.p.name.toArray⟩,.slice y.a y.p.refs.length y.cap,.string y.t0,.string y.t1,.bool y.t2,.slice y.t3 y.t4 y.t5] 260)=w5 at *;have r0:=ce0 HY5.o;have r1:=ce1 HY5.o;have HCN:=Hh (wF _ _ s w5 (HRF.o.2.later HB5.o) (by omega))
   cases hq1:y.p.name==s with
   | true =>
    have HE:=Hh (show vQ s (zs.take (j+1))=vQ s (zs.take j) by rw[HTK.o,zL1 (by simp[bne,hq1]),List.append_nil]);have hq2:(y.p.name != s)=false:=by simp[bne,hq1]
    clear HTK;go_wp2_with fail;go_roundw
    case rel=>exact⟨j+1,by go_num,hjl,HB5,Hh (by rw[HE.o];exact HO5.o)⟩
    case measure=>simp[intOf];omega
   | false =>
    have hq2:(y.p.name != s)=true:=by simp[bne,hq1]
    cases hq:y.p.refs.contains s with
    | false =>
     have HE:=Hh (show vQ s (zs.take (j+1))=vQ s (zs.take j) by rw[HTK.o,zL1 (by rw[hq];simp),List.append_nil]);rw[hq] at HCN;clear HTK hq;go_wp2_with (go_at_call 167;refine HCN.o.mono ?_;rintro ev wz ⟨rfl,rfl⟩);go_roundw
     case rel=>exact⟨j+1,by go_num,hjl,HB5,Hh (by rw[HE.o];exact HO5.o)⟩
     case measure=>simp[intOf];omega
    | true =>
     have HE:=Hh (show vQ s (zs.take (j+1))=vQ s (zs.take j)++[y.p.name] by rw[HTK.o,zM1 (by rw[hq,hq2];rfl)]);rw[hq] at HCN;clear HTK hq;have HO6:=Hh (HO5.o.alloc (.cells #[.string ⟨y.p.name.toArray⟩] 9));have HB6:=Hh (HB5.o.alloc HB5.o.size (.cells #[.string ⟨y.p.name.toArray⟩] 9));go_wp2_with (first
      | (go_at_call 167;refine HCN.o.mono ?_;rintro ev wz ⟨rfl,rfl⟩)
      | (at_builtin;refine Stl.wpList_app _ rfl _ _ 22 rfl w.heap.size 9 i0 (.string ByteArray.empty) 1 16 Tryz.underlying22 Hi.o Hz0.o Hz1.o Hz2.o rfl (by decide) u9 (vQ s (zs.take j)).length _ rfl HO6.o (some ⟨_,0,none⟩) 1 1 [.string ⟨y.p.name.toArray⟩] rfl rfl (fun h=>by cases h) (jD _ _ _) (by simp[Value.oneCell']) (by unfold maxLen;omega) (by omega) (zq HB5.o.size (by simp)) ?_;intro A7 c7 w7 hown7 hgr7 hat7;have HO7:=Hh hown7;have HB7:=Hh (HB6.o.grown hgr7 HB6.o.size (fun k hk=>(HO6.o.lt k hk).1));clear hown7 hgr7 hat7))
     go_roundw
     case rel=>exact⟨j+1,by go_num,hjl,HB7,Hh (by rw[HE.o,zP,zU];exact HO7.o)⟩
     case measure=>simp[intOf];omega
  ·have i1:¬ (j:Int)<(zs.length:Int):=by omega
   obtain rfl:j=zs.length:=by omega
   obtain⟨A3,c3,e3⟩:=Stl.owns_slice _ HO.o;subst e3;have ho:=HO.o;rw[zk] at ho hul;have HSR:=Hh (qCF A3 c3 w.heap.size (vQ s zs) (by omega) wr ho);have HSO:=Hh (qGi zs (by have:=HP.o.names;rwa [zW] at this) s);have HBR:=Hh ho;clear ho;go_wp2_with (go_at_call 173;refine HSR.o.mono ?_;rintro ev w8 ⟨rfl,hr8,hg8⟩;have HR8:=Hh hr8;have HG8:=Hh hg8;clear hr8 hg8);go_ret2;have hr8:=HR8.o;rw[HSO.o,HUS.o] at hr8;have hlen:(vQ s zs).length=res.length:=by
    have:=congrArg List.length HSO.o;rw[List.length_mergeSort,HUS.o] at this;exact this
   rw[hlen] at hr8;refine⟨_,rfl,?_,HB.o.grown HG8.o HB.o.size (fun k hk=>(HBR.o.lt k hk).1)⟩;rw[hlen];exact hr8
def dR (s:Sto)(word name:List UInt8):Except Nat (List UInt8) :=
 match s.find name with
 | none=>.error 6
 | some q=>.ok (qT (if word=[114,101,102,115] then q.refs else if word=[117,115,101,114,115] then nD s.l name else closure s.l [name]))
theorem nZ {l:List Pk}(hP:nY l){r:List (List UInt8)}(hr:Rise r)(hin:∀ x∈r,x∈l.map (·.name)):r.length≤40∧(qT r).length≤1000:=by
 have h1:r.length≤40:=zq (nF (qBA hr) hin) (by rw[zT];exact hP.many);have h2:=kB 12 r (fun x hx=>by
  obtain⟨q,hq,rfl⟩:=zb.1 (hin x hx)
  exact vT (hP.well q hq))
 refine⟨h1,?_⟩;have h3:r.length*(12+1)≤40*13:=Nat.mul_le_mul h1 (zo _);omega
theorem qMM {w:World}{g cp:Nat}{x:List UInt8}(h:w.cell? ⟨g,0,none⟩=some (.string ⟨x.toArray⟩)):Strs w (.slice (some ⟨g,0,none⟩) [x].length cp) [x] :=
 ⟨_,_,rfl,fun _=>⟨g,0,rfl,lt_of_cell h,fun j y hy=>by
  cases j with
  | zero=>simp only[List.getElem?_cons_zero,zB1] at hy;rw[← hy];exact h
  | succ j=>simp at hy⟩⟩
section
variable {w:World}{A:Option Addr}{zs:List PkX}{c:Nat→Col}{b:Nat}{s:Sto}{bd:Nat}{cap:Nat}{R:Option Addr}{rc tp:Nat}{p:Nat→Addr}
theorem qMw (h:StoX w c b s bd A cap zs R rc tp)(hg:vB s)(hE:Env w c p)(word name:List UInt8) :
  Calls Tryz.prog 80 #[.pointer (some ⟨b,0,none⟩),.string ⟨word.toArray⟩,.string ⟨name.toArray⟩] w (TlPost p w (dR s word name)):=by
 have hfew:=h.few hg.ok;have hrf:=h.fewRefs hg.ok;have H:=Hh h;have HG:=Hh hg;have HE:=Hh hE;obtain⟨res,hres⟩:∃ res,res=dR s word name:=⟨_,rfl⟩;rw[← hres];unfold dR at hres;have HFD:=Hh (gR h (by omega) name);clear h hg hE;go_enter Tryz.func80,Tryz.ntmps80
 cases hf:s.find name with
 | none =>
  rw[hf] at hres;have HRS:=Hh (show res=.error 6 from hres);have HF:=Hh hf;clear hf hres;go_upto_region 3 with (go_at_call 97;refine HFD.o.mono ?_;rintro ev w1 ⟨⟨i,rfl,hi⟩,hb1⟩;have hneg:=(hi.none_ H.o.eq).1 HF.o;have HB1:=Hh hb1;clear hb1 hi);have hg:w1.cell? ⟨5,0,none⟩=some (.iface 376 (.pointer (some (p 6)))):=((HE.o.errs.later HB1.o).cell 6 (by decide) (by decide)).trans (by rw[qD p (by decide)]);go_quiet (fail);go_wp2;go_ret2;rw[HRS.o];exact⟨_,_,rfl,Below.drewN HB1.o _,by rw[qD p (by decide)];rfl,by decide⟩
 | some pk =>
  rw[hf] at hres;simp only at hres;have hmem:=wU hf;have HF:=Hh hf;have HIN:=Hh (show name∈s.l.map (·.name) from zb.2 ⟨pk,hmem.1,hmem.2⟩);have HPM:=Hh hmem.1;clear hf hmem;go_upto_region 6 with (go_at_call 97;refine HFD.o.mono ?_;rintro ev w1 ⟨⟨i,rfl,hi⟩,hb1⟩;obtain⟨ki,hki,rfl,hpk⟩:=hi.some_ H.o.eq HG.o.ok.pks.names HF.o;have HPK:=Hh hpk;have HB1:=Hh hb1;clear hb1 hi hpk);have HX1:=Hh (H.o.below HB1.o)
  cases h1:word==[114,101,102,115] with
  | true =>
   rw[zM1 (eq_of_beq h1)] at hres;have HRS:=Hh hres;have hfn:=nZ HG.o.ok.pks (r:=pk.refs) (HG.o.ok.pks.rise pk HPM.o) (fun x hx=>(qBF s.l [] HG.o.ok.pks.refs pk HPM.o x hx).resolve_right (by simp));have HFN:=Hh hfn;clear hres hfn;have hro:=HX1.o.ro zs[ki] (zO hki);obtain⟨g,hA,hgl,s0,s1,s2⟩:=HX1.o.kept.at hki;subst hA;rw[HPK.o] at s1 hro;have HJ:=Hh (yE (hro.2.strs zs[ki].cap) hro.1 (by have:=HFN.o.1;omega) (by have:=HFN.o.2;omega));generalize zs[ki].a=Az at *;generalize zs[ki].cap=cz at *;clear s0 s2 hro;have c1:=ce1 HX1.o.own;have k1:(ki:Int)<(zs.length:Int):=by omega
   have k2:(0:Int)≤(ki:Int):=by omega
   go_upto_region 12 with fail;go_wp2_with (go_at_call 61;refine HJ.o.mono ?_;rintro ev w9 ⟨rfl,hb9⟩;have HB9:=Hh (HB1.o.trans (hb9.mono HB1.o.size));clear hb9);go_ret2;rw[HRS.o];exact⟨_,_,rfl,HB9.o,rfl,rfl⟩
  | false =>
   rw[zL1 (by simpa using h1)] at hres;have HPK2:=Hh (qF3 HX1.o (by omega) (fun x hx=>by have:=hrf x hx;omega))
   cases h2:word==[117,115,101,114,115] with
   | true =>
    rw[zM1 (eq_of_beq h2)] at hres;have HRS:=Hh hres;have hfn:=nZ HG.o.ok.pks (r:=nD s.l name) (rise_insAll _ _ rise_nil) (fun x hx=>by
     rcases (mem_insAll x _ _).1 hx with h | h
     ·obtain⟨q,hq,rfl⟩:=zb.1 h
      exact zb.2 ⟨q,(zZ.1 hq).1,rfl⟩
     ·simp at h)
    have HFN:=Hh hfn;clear hres hfn;go_upto_region 12 with (first
     | (go_at_call 114;refine HPK2.o.mono ?_;rintro ev w2 ⟨A2,cap2,ys,rfl,hcap2,hys,hr2,hrr2,hz2,hb2⟩;have HB2:=Hh (HB1.o.trans (hb2.mono HB1.o.size));have HYS:=Hh hys;have HPA:=Hh (qAm hr2 hrr2);have HIY:=Hh (show name∈ys.map (·.p.name) by { have h1:=HIN.o;rw[← hys,zW] at h1;exact h1 });have hcap2':=hcap2;clear hr2 hrr2 hz2 hb2 hys)
     | (go_at_call 134;refine(qJW HPA.o (by rw[HYS.o];exact HG.o.ok.pks) cap2 hcap2 name HIY.o).mono ?_;rintro ev w3 ⟨v3,rfl,hr3,hb3⟩;rw[HYS.o] at hr3;obtain⟨A3,cap3,rfl⟩:=Stl.owns_slice _ hr3;have HR3:=Hh hr3;have HB3:=Hh (HB2.o.trans (hb3.mono HB2.o.size));clear hr3 hb3)
     | fail)
    have HJ:=Hh (yE (jS HR3.o) (yG HR3.o) (by have:=HFN.o.1;omega) (by have:=HFN.o.2;omega));go_wp2_with (go_at_call 61;refine HJ.o.mono ?_;rintro ev w9 ⟨rfl,hb9⟩;have HB9:=Hh (HB3.o.trans (hb9.mono HB3.o.size));clear hb9);go_ret2;rw[HRS.o];exact⟨_,_,rfl,HB9.o,rfl,rfl⟩
   | false =>
    rw[zL1 (by simpa using h2)] at hres;have HRS:=Hh hres;have hfn:=nZ HG.o.ok.pks (r:=closure s.l [name]) (qB5 _ _) (qAM HG.o.ok.pks.refs (fun x hx=>by rw[zg.1 hx];exact HIN.o));have HFN:=Hh hfn;clear hres hfn;go_upto_region 12 with (first
     | (go_at_call 114;refine HPK2.o.mono ?_;rintro ev w2 ⟨A2,cap2,ys,rfl,hcap2,hys,hr2,hrr2,hz2,hb2⟩;have HB2:=Hh (HB1.o.trans (hb2.mono HB1.o.size));have HYS:=Hh hys;have HPA:=Hh (qAm hr2 hrr2);have HIY:=Hh (show name∈ys.map (·.p.name) by { have h1:=HIN.o;rw[← hys,zW] at h1;exact h1 });have hcap2':=hcap2;clear hr2 hrr2 hz2 hb2 hys)
     | (go_at_call 135;refine(qCx (names:=[name]) (cn:=1) (An:=some ⟨w2.heap.size,0,none⟩) (HPA.o.later ((zB w2.heap.size w2).alloc (zo _) _)) (by rw[HYS.o];exact HG.o.ok.pks) cap2 hcap2 (qMM (zJ1 _ _ 0 _ _ _ (zK1 w2 (.cells #[.string ⟨name.toArray⟩] 9)))) (by simp) (fun x hx=>by rw[zg.1 hx];exact HIY.o)).mono ?_;rintro ev w3 ⟨v3,rfl,hr3,hb3⟩;rw[HYS.o] at hr3;obtain⟨A3,cap3,rfl⟩:=Stl.owns_slice _ hr3;have HR3:=Hh hr3;have hba:=HB2.o.alloc HB2.o.size (.cells #[.string ⟨name.toArray⟩] 9);have HB3:=Hh (hba.trans (hb3.mono hba.size));clear hr3 hb3 hba)
     | fail)
    have HJ:=Hh (yE (jS HR3.o) (yG HR3.o) (by have:=HFN.o.1;omega) (by have:=HFN.o.2;omega));go_wp2_with (go_at_call 61;refine HJ.o.mono ?_;rintro ev w9 ⟨rfl,hb9⟩;have HB9:=Hh (HB3.o.trans (hb9.mono HB3.o.size));clear hb9);go_ret2;rw[HRS.o];exact⟨_,_,rfl,HB9.o,rfl,rfl⟩
end
def uG (s:Sto)(text:List UInt8):Except Nat (List UInt8) :=
 match qI text 6 with
 | none=>.error 1
 | some n=>.ok (s.where_ n)
theorem qHS {B:Nat}{e:TypeId}{k:Nat}{v:Value}{n:Nat}{xs:List Value}{w w':World}(h:w.ownsRow B e k v n xs)(hb:Below w.heap.size w w'):w'.ownsRow B e k v n xs :=
 h.kept (row:=none) ⟨hb.os,hb.tape,hb.output,hb.size,fun j hj _=>hb.block j hj⟩ (by cases hv:v.ownBlock<;>simp)
def qON (s:Sto)(n:Nat)(q:Pk):List (List UInt8) :=
 match qN s.d.l q.k with
 | none=>[]
 | some e=>(e.f.filter fun x=>x.2==n).map fun x=>q.name++x.1
structure WhSt (w1 wr:World)(s:Sto)(n:Nat)(zs:List PkX)(i:Nat)(v:Value)(acc:List (List UInt8)):Prop where
 below:Below w1.heap.size w1 wr
 row:wr.ownsRow w1.heap.size 9 1 v acc.length (acc.map encStr)
 eq:acc=((zs.take i).map (·.p)).flatMap (qON s n)
 few:acc.length≤i*200
 len:∀ x∈acc,x.length≤1000020
structure qOY (w1 wr:World)(n:Nat)(nm:List UInt8)(f:List (List UInt8×Nat))(acc0:List (List UInt8))(F:Nat)(A6:Option Addr)(cap6:Nat)(fs:List (List UInt8))(box:Nat)(cs:Array Value)(j:Nat)(v:Value)(acc:List (List UInt8)):Prop where
 belowW:Below w1.heap.size w1 wr
 row:wr.ownsRow w1.heap.size 9 1 v acc.length (acc.map encStr)
 frow:wr.ownsRow F 9 1 (.slice A6 fs.length cap6) fs.length (fs.map encStr)
 apart:(Value.slice A6 fs.length cap6).ownBlock=none∨(Value.slice A6 fs.length cap6).ownBlock≠v.ownBlock
 box:wr.heap[box]?=some (.cells cs 150 (0,0))
 eq:acc=acc0++((f.take j).filter fun x=>x.2==n).map fun x=>nm++x.1
 few:acc.length≤acc0.length+j
 len:∀ x∈acc,x.length≤1000020
section
variable {w:World}{A:Option Addr}{zs:List PkX}{c:Nat→Col}{b:Nat}{s:Sto}{bd:Nat}{cap:Nat}{R:Option Addr}{rc tp:Nat}{p:Nat→Addr}
theorem qJD (h:StoX w c b s bd A cap zs R rc tp)(hg:vB s)(hE:Env w c p)(text:List UInt8)(hr:text.length≤1000000) :
  Calls Tryz.prog 81 #[.pointer (some ⟨b,0,none⟩),.string ⟨text.toArray⟩] w (TlPost p w (uG s text)):=by
 have hfew:=h.few hg.ok;have H:=Hh h;have HG:=Hh hg;have HE:=Hh hE;obtain⟨res,hres⟩:∃ res,res=uG s text:=⟨_,rfl⟩;rw[← hres];unfold uG at hres;have HNU:=Hh (kH text (by omega) w hE.vars);clear h hg hE;go_enter Tryz.func81,Tryz.ntmps81
 cases hn:qI text 6 with
 | none =>
  rw[hn] at hres HNU;have HRS:=Hh (show res=.error 1 from hres);clear hn hres;go_upto_region 3 with (go_at_call 55;refine HNU.o.mono ?_;rintro ev w1 ⟨hb1,n',ok,rfl,hni⟩;have hok:ok=false:=(by rcases hni with ⟨_,h⟩ | ⟨m,h,_⟩;exact h;cases h);subst hok;have HB1:=Hh hb1;clear hb1 hni);have hg:w1.cell? ⟨1,0,none⟩=some (.iface 376 (.pointer (some (p 1)))):=((HE.o.errs.later HB1.o).cell 1 (by decide) (by decide)).trans (by rw[qD p (by decide)]);go_quiet (fail);go_wp2;go_ret2;rw[HRS.o];exact⟨_,_,rfl,Below.drewN HB1.o _,by rw[qD p (by decide)];rfl,by decide⟩
 | some n =>
  rw[hn] at hres HNU;have HRS:=Hh (show res=.ok (s.where_ n) from hres);clear hn hres;go_upto_region 4 with (go_at_call 55;refine HNU.o.mono ?_;rintro ev w1 ⟨hb1,n',ok,rfl,hni⟩;obtain⟨rfl,rfl⟩:n'=(n:Int)∧ok=true:=(by rcases hni with ⟨h,_⟩ | ⟨m,h,h1,h2⟩;cases h;cases h;exact⟨h2,h1⟩);have HB1:=Hh hb1;clear hb1 hni);have HX1:=Hh (H.o.below HB1.o);have c1:=ce1 HX1.o.own;have HWH:=Hh (show s.where_ n=qT ((zs.map (·.p)).flatMap (qON s n)) from by rw[H.o.eq];rfl);obtain⟨i0,hi,hz0,hz1,hz2⟩:=pO;have Hi:=Hh hi;have Hz0:=Hh hz0;have Hz1:=Hh hz1;have Hz2:=Hh hz2;clear hi hz0 hz1 hz2;go_upto_region 6 with fail;clear c1
  go_loopw [8,28] (fun v a wr=>∃ (i:Nat) (acc:List (List UInt8)),a=.int .i64 i∧i≤zs.length∧Hg (WhSt w1 wr s n zs i v acc)) (fun _ a _=>zs.length-(intOf a).toNat)
  case atStart=>exact⟨0,[],rfl,zw _,Hh ⟨zB _ _,zF1 _ _ _ _,rfl,zw _,by simp⟩⟩
  case round =>
   obtain⟨i,acc,rfl,hi,HS⟩:=hrel;by_cases hil:i<zs.length
   ·have i1:(i:Int)<(zs.length:Int):=by omega
    have i2:(0:Int)≤(i:Int):=by omega
    have HXr:=Hh (HX1.o.below HS.o.below);obtain⟨g,hA,hgl,s0,s1,s2⟩:=HXr.o.kept.at hil;subst hA;have HTK:=Hh (show ((zs.take (i+1)).map (·.p))=(zs.take i).map (·.p)++[zs[i].p] from by rw[zn hil,zU];rfl);have hmem:zs[i].p∈s.l:=by rw[← H.o.eq];exact zb.2 ⟨_,zO hil,rfl⟩
    have hent:∃ e,e∈s.d.l∧e.k=zs[i].p.k:=by
     have h2:zs[i].p.k∈s.d.l.map (·.k):=by rw[← HG.o.ok.ks];exact zb.2 ⟨_,hmem,rfl⟩
     obtain⟨e,he,hk⟩:=zb.1 h2;exact⟨e,he,hk⟩
    obtain⟨e,hem,hek⟩:=hent;have heo:=jI HG.o.ok.dirs.keys hem;have HROW:=Hh (show qON s n zs[i].p=(e.f.filter fun x=>x.2==n).map fun x=>zs[i].p.name++x.1 from by unfold qON;rw[← hek,heo]);have hnm:=vT (HG.o.ok.pks.well _ hmem);have hkb:=qJU HG.o.good hem;have HEM:=Hh hem;have HEO:=Hh heo;rw[← hek] at s2;clear hmem heo hem hek;generalize zs[i]=y at *;have hb6:=(zB wr.heap.size wr).alloc (zo _) (.cells #[.string ⟨y.p.name.toArray⟩,.slice y.a y.p.refs.length y.cap,.int .i64 e.k] 150);have HY6:=Hh (zK1 wr (.cells #[.string ⟨y.p.name.toArray⟩,.slice y.a y.p.refs.length y.cap,.int .i64 e.k] 150));have HBa:=Hh (HS.o.below.trans (hb6.mono HS.o.below.size));have HOa:=Hh (HS.o.row.alloc (.cells #[.string ⟨y.p.name.toArray⟩,.slice y.a y.p.refs.length y.cap,.int .i64 e.k] 150));clear hb6;go_upto_region 8 with fail;clear s0 s1 s2;generalize wr.alloc (.cells #[.string ⟨y.p.name.toArray⟩,.slice y.a y.p.refs.length y.cap,.int .i64 e.k] 150)=w5 at *;have HX5:=Hh (HX1.o.below HBa.o);have HEv:=Hh (HE.o.below (HB1.o.trans (HBa.o.mono HB1.o.size)));have c0:=ce0 HX5.o.own;have r2:=ce2 HY6.o;have HDR:=Hh (zB w5.heap.size w5).drew;have HFL:=Hh (show Calls Tryz.prog 136 #[.pointer (some ⟨bd,0,none⟩),.int .i64 e.k] w5.drew _ from qFh (HX5.o.below HDR.o).dirs e.k hkb (HEv.o.errs.later HDR.o) HEO.o);have HFF:=Hh (HG.o.ok.dirs.files _ HEM.o);have hff2:=wR HG.o.ok.dirs HEM.o;have HFLN:=Hh (show (qR e.n).length=e.f.length by rw[← HFF.o,zT]);have hfl3:(qR e.n).length≤200:=by rw[HFLN.o];exact hff2
    generalize qR e.n=fs at *
    go_region_held3 (fun w'=>w'.cell? ⟨b,0,none⟩=some (.pointer (some ⟨bd,0,none⟩))∧w'.cell? ⟨wr.heap.size,2,none⟩=some (.int .i64 e.k))
     (first
      | exact⟨c0,r2⟩
      | exact HS6.o
      | go_keep)
     (first
      | (go_at_call 136;refine HFL.o.mono ?_;rintro ev w6 ⟨A6,cap6,rfl,hr6,hb6'⟩;have hb6:Below w5.heap.size w5 w6:=HDR.o.trans hb6';have HR6:=Hh hr6;have HB56:=Hh hb6;have HS6:=Hh (show w6.cell? ⟨b,0,none⟩=some (.pointer (some ⟨bd,0,none⟩))∧w6.cell? ⟨wr.heap.size,2,none⟩=some (.int .i64 e.k) from ⟨(hb6.cell (p:=⟨b,0,none⟩) (lt_of_cell c0)).trans c0,(hb6.cell (p:=⟨wr.heap.size,2,none⟩) (lt_of_cell r2)).trans r2⟩);clear hr6 hb6 hb6')
      | fail)
    clear c0 r2;have HSf:=Hh (vF HR6.o);have HB6:=Hh (HBa.o.trans (HB56.o.mono HBa.o.size));have HY66:=Hh ((HB56.o.block _ (qA HY6.o)).trans HY6.o);have HOb:=Hh (qHS HOa.o HB56.o);have HAP:=Hh (show (Value.slice A6 fs.length cap6).ownBlock=none∨(Value.slice A6 fs.length cap6).ownBlock≠u8.ownBlock from by
     by_cases hn:(Value.slice A6 fs.length cap6).ownBlock=none
     ·exact .inl hn
     ·refine .inr fun e=>?_
      obtain⟨k,hk⟩:=Option.ne_none_iff_exists'.1 hn
      have h1:=(HR6.o.lt k hk).1
      have h2:=(HOa.o.lt k (e▸hk)).2
      have h3:w5.heap.size≤k:=h1
      omega)
    go_upto_region 9 with fail;generalize wr.heap.size=box at *
    go_loopw [8,40] (fun v a wq=>∃ (j:Nat) (acc2:List (List UInt8)),a=.int .i64 j∧j≤fs.length∧Hg (qOY w1 wq n y.p.name e.f acc w5.heap.size A6 cap6 fs box #[.string ⟨y.p.name.toArray⟩,.slice y.a y.p.refs.length y.cap,.int .i64 e.k] j v acc2)) (fun _ a _=>fs.length-(intOf a).toNat)
    case atStart=>exact⟨0,acc,rfl,zw _,Hh ⟨HB6.o,HOb.o,HR6.o,HAP.o,HY66.o,by simp,zo _,HS.o.len⟩⟩
    case round =>
     obtain⟨j,acc2,rfl,hj,HQ⟩:=hrel;by_cases hjl:j<fs.length
     ·have j1:(j:Int)<(fs.length:Int):=by omega
      have j2:(0:Int)≤(j:Int):=by omega
      obtain⟨g6,off6,hA6,hg6,q6⟩:=(jS HQ.o.frow).cellAt hjl;subst hA6;have hjf:j<e.f.length:=by rw[← HFLN.o];exact hjl
      have hfs:fs[j]=e.f[j].1:=by
       have:=HFF.o;subst this;simp
      have HTKq:=Hh (show e.f.take (j+1)=e.f.take j++[e.f[j]] from zn hjf);have hfm:(e.f[j].1,e.f[j].2)∈e.f:=zO hjf;obtain⟨hna,⟨ls,hsp⟩,_⟩:=qCG HG.o.ok.dirs HEM.o hfm;have hql:=qCJ HG.o.ok.dirs HEO.o _ hfm;rw[hfs] at q6;clear hfs hfm;generalize e.f[j]=q at *;obtain⟨pt,m⟩:=q;simp only at hna hsp hql q6;have HBQ1:=Hh (HB1.o.trans (HQ.o.belowW.mono HB1.o.size));have HXq:=Hh (HX1.o.below HQ.o.belowW);have HEq:=Hh (HE.o.below HBQ1.o);have HDRq:=Hh (zB wr.heap.size wr).drew;have HIN:=Hh (show Calls Tryz.prog 137 #[.pointer (some ⟨bd,0,none⟩),.int .i64 e.k,.string ⟨pt.toArray⟩] wr.drew (fun ev w'=>ev=.returned (.tuple #[.int .i64 m,.nilIface])∧Below wr.drew.heap.size wr.drew w') from by
       have h1:=qCN (p:=p) (HXq.o.below HDRq.o).dirs e.k hkb pt (by omega) (HEq.o.errs.later HDRq.o) (HEq.o.below HDRq.o).max HEO.o
       rw[show wJ s.d e.k pt=.ok m by unfold wJ;rw[HEO.o];simp only[hsp,hna],show oA p (.ok m)=#[.int .i64 m,.nilIface] from rfl] at h1
       exact h1)
      have c0:=ce0 HXq.o.own;have HYq:=Hh HQ.o.box;have r2:=ce2 HYq.o;clear hna hsp;go_upto_region 11 with fail;clear q6
      go_region_held3 (fun w'=>w'.cell? ⟨b,0,none⟩=some (.pointer (some ⟨bd,0,none⟩))∧w'.cell? ⟨box,2,none⟩=some (.int .i64 e.k))
       (first
        | exact⟨c0,r2⟩
        | exact HS8.o
        | go_keep)
       (first
        | (go_at_call 137;refine HIN.o.mono ?_;rintro ev w8 ⟨rfl,hb8'⟩;have hb8:Below wr.heap.size wr w8:=HDRq.o.trans hb8';have HB8:=Hh hb8;have HS8:=Hh (show w8.cell? ⟨b,0,none⟩=some (.pointer (some ⟨bd,0,none⟩))∧w8.cell? ⟨box,2,none⟩=some (.int .i64 e.k) from ⟨(hb8.cell (p:=⟨b,0,none⟩) (lt_of_cell c0)).trans c0,(hb8.cell (p:=⟨box,2,none⟩) (lt_of_cell r2)).trans r2⟩);clear hb8 hb8')
        | fail)
      clear c0 r2;have HY8:=Hh ((HB8.o.block _ (qA HYq.o)).trans HYq.o);have HO8:=Hh (qHS HQ.o.row HB8.o);have HF8:=Hh (qHS HQ.o.frow HB8.o);have HB18:=Hh (HQ.o.belowW.trans (HB8.o.mono HQ.o.belowW.size))
      cases hmn:m==n with
      | false =>
       have hne:¬ (m:Int)=(n:Int):=by intro e;rw[show m=n by omega] at hmn;simp at hmn
       have HWN:=Hh (show qOY w1 w8 n y.p.name e.f acc w5.heap.size (some ⟨g6,off6,none⟩) cap6 fs box #[.string ⟨y.p.name.toArray⟩,.slice y.a y.p.refs.length y.cap,.int .i64 e.k] (j+1) u8 acc2 from ⟨HB18.o,HO8.o,HF8.o,HQ.o.apart,HY8.o,by rw[HTKq.o,List.filter_append,zU,← List.append_assoc,← HQ.o.eq];simp[List.filter,hmn],by have:=HQ.o.few;omega,HQ.o.len⟩);clear hmn;go_wp2;go_roundw
       case rel=>exact⟨j+1,acc2,by go_num,hjl,HWN⟩
       case measure=>simp[intOf];omega
      | true =>
       obtain rfl:m=n:=eq_of_beq hmn;clear hmn;have r0:=ce0 HY8.o;have HO9:=Hh (HO8.o.alloc (.cells #[.string ((⟨y.p.name.toArray⟩:ByteArray)++⟨pt.toArray⟩)] 9));have HF9:=Hh (HF8.o.alloc (.cells #[.string ((⟨y.p.name.toArray⟩:ByteArray)++⟨pt.toArray⟩)] 9));have HY9:=Hh (qS w8 (.cells #[.string ((⟨y.p.name.toArray⟩:ByteArray)++⟨pt.toArray⟩)] 9) HY8.o);have HB19:=Hh (HB18.o.alloc HB18.o.size (.cells #[.string ((⟨y.p.name.toArray⟩:ByteArray)++⟨pt.toArray⟩)] 9));have HCC:=Hh (show (⟨y.p.name.toArray⟩:ByteArray)++⟨pt.toArray⟩=⟨(y.p.name++pt).toArray⟩ from ByteArray.ext (by simp));have hal:acc2.length≤9000:=by have:=HQ.o.few;have:=HS.o.few;omega
       go_wp2_with (at_builtin;refine Stl.wpList_app _ rfl _ _ 22 rfl w1.heap.size 9 i0 (.string ByteArray.empty) 1 16 Tryz.underlying22 Hi.o Hz0.o Hz1.o Hz2.o rfl (by decide) u8 acc2.length _ rfl HO9.o (some ⟨w8.heap.size,0,none⟩) 1 1 [.string ((⟨y.p.name.toArray⟩:ByteArray)++⟨pt.toArray⟩)] rfl rfl (fun h=>by cases h) (jD _ _ _) (by simp[Value.oneCell']) (by unfold maxLen;omega) (by omega) (zq HB18.o.size (by simp)) ?_;intro A7 c7 w7 hown7 hgr7 hat7;have HOz:=Hh hown7;have HFz:=Hh (HF9.o.kept hgr7 HQ.o.apart);have HYz:=Hh ((hgr7.block _ (qA HY9.o) (vI HO9.o HY9.o (by decide))).trans HY9.o);have HAz:=Hh hat7;have HB1z:=Hh (HB19.o.grown hgr7 HB19.o.size (fun k hk=>(HO9.o.lt k hk).1));clear hown7 hgr7 hat7);have hapz:(Value.slice (some ⟨g6,off6,none⟩) fs.length cap6).ownBlock=none∨(Value.slice (some ⟨g6,off6,none⟩) fs.length cap6).ownBlock≠(Value.slice A7 (acc2.length+1) c7).ownBlock:=by
        rcases HAz.o with h | h
        ·rw[h];exact HQ.o.apart
        ·rw[h];by_cases hn:(Value.slice (some ⟨g6,off6,none⟩) fs.length cap6).ownBlock=none
         ·exact .inl hn
         ·refine .inr fun e=>?_
          have:=(HF9.o.lt _ e).2;omega
       have HWN:=Hh (show qOY w1 w7 m y.p.name e.f acc w5.heap.size (some ⟨g6,off6,none⟩) cap6 fs box #[.string ⟨y.p.name.toArray⟩,.slice y.a y.p.refs.length y.cap,.int .i64 e.k] (j+1) (.slice A7 (acc2.length+1) c7) (acc2++[y.p.name++pt]) from ⟨HB1z.o,by have:=HOz.o;rw[HCC.o] at this;simpa[encStr] using this,HFz.o,hapz,HYz.o,by rw[HTKq.o,List.filter_append,zU,← List.append_assoc,← HQ.o.eq];simp[List.filter],by have:=HQ.o.few;simp;omega,fun x hx=>by
        rcases zX.1 hx with h | h
        ·exact HQ.o.len x h
        ·rw[zg.1 h,zP];omega⟩)
       go_wp2;go_roundw
       case rel=>exact⟨j+1,_,by go_num,hjl,HWN⟩
       case measure=>simp[intOf];omega
     ·have j1:¬ (j:Int)<(fs.length:Int):=by omega
      obtain rfl:j=fs.length:=by omega
      have heq:=HQ.o.eq;rw[HFLN.o,zk,← HROW.o] at heq;have hfw:=HQ.o.few;have hfw0:=HS.o.few;have HWN:=Hh (show WhSt w1 wr s n zs (i+1) u8 acc2 from ⟨HQ.o.belowW,HQ.o.row,by rw[HTK.o,List.flatMap_append,← HS.o.eq,heq];simp,by omega,HQ.o.len⟩);clear heq hfw hfw0;go_wp2;go_roundw
      case rel=>exact⟨i+1,acc2,by go_num,hil,HWN⟩
      case measure=>simp[intOf];omega
   ·have i1:¬ (i:Int)<(zs.length:Int):=by omega
    obtain rfl:i=zs.length:=by omega
    obtain⟨A3,c3,e3⟩:=Stl.owns_slice _ HS.o.row;subst e3;have hfew2:=HS.o.few;have heq:=HS.o.eq;rw[zk] at heq;have HJ:=Hh (yE (jS HS.o.row) (yG HS.o.row) (by omega) (by
     have h1:=kB 1000020 acc HS.o.len
     have h2:acc.length*(1000020+1)≤8000*1000021:=Nat.mul_le_mul (by omega) (zo _)
     omega))
    have HEQ:=Hh heq;clear heq hfew2;go_wp2_with (go_at_call 61;refine HJ.o.mono ?_;rintro ev w9 ⟨rfl,hb9⟩;have HB9:=Hh (HB1.o.trans ((HS.o.below.trans (hb9.mono HS.o.below.size)).mono HB1.o.size));clear hb9);go_ret2;rw[HRS.o,HWH.o,← HEQ.o];exact⟨_,_,rfl,HB9.o,rfl,rfl⟩
end
section
variable {w:World}{c:Nat→Col}{b:Nat}{d:Stl.Dirs}{p:Nat→Addr}
theorem qJT (h:DirsAt w c b d)(hd:DirsGood d) :
  Calls Tryz.prog 131 #[.pointer (some ⟨b,0,none⟩)] w fun e w'=>e=.returned (.int .i64 (d.t.saved:Nat))∧Below w.heap.size w w':=by
 have HD:=Hh hd;obtain⟨bt,bmm,nd,fm,h⟩:=h;have HTB:=Hh (wS h);have HT:=Hh h.tab;have HALL:=Hh (qEh h.tab hd.inos);have HSV:=Hh (qG8 d.t);have hal:∀ n∈d.t.all,n≤1000000∧(∃ x,d.t.at_ n=some x∧1≤x.links∧x.links≤200000000∧x.blocks.length≤126)∧kQ d.t n≤25200000000:=fun n hn=>by
  have h1:=pP.1 hn;obtain⟨x,hx⟩:=zy.1 h1;have h2:=nH hx;have h3:=hd.inos;have h4:=pH hd.ok hx;have h5:=hd.ents;have h6:=hd.ok.tab.need n x hx;have h7:=hd.ok.tab.bytes n x hx;have h8:=hd.ok.tab.links n x hx;have h9:x.blocks.length≤126:=by rw[h6];unfold jL;omega
  refine⟨by omega,⟨x,hx,h8,by omega,h9⟩,?_⟩;unfold kQ;rw[hx];simp only;have:(x.links-1)*x.blocks.length≤200000000*126:=Nat.mul_le_mul (by omega) h9;omega
 have hll:d.t.all.length≤1000000:=by
  have h3:=hd.inos;unfold Tab.all;have:=zS (fun n=>(d.t.at_ n).isSome) (List.range d.t.l.length);simp at this ⊢;omega
 generalize d.t.saved=res at HSV ⊢;generalize d.t.all=all at HALL hal hll HSV;have HAL:=Hh hal;clear h hd hal;go_enter Tryz.func131,Tryz.ntmps131;go_upto_region 6 with (first
  | (go_at_call 126;refine HTB.o.mono ?_;rintro ev wz ⟨rfl,rfl⟩)
  | (go_at_call 189;refine HALL.o.mono ?_;rintro ev wx ⟨A,cap,rfl,hr,hb⟩;have HRW:=Hh hr;have HBX:=Hh hb;clear hr hb))
 go_loopw [3,16] (fun v a wr=>∃ j:Nat,a=.int .i64 j∧j≤all.length∧v=.int .i64 (kI d.t (all.take j):Nat)∧Hg (Below wx.heap.size wx wr)∧kI d.t (all.take j)≤j*25200000000) (fun _ a _=>all.length-(intOf a).toNat)
 case atStart=>exact⟨0,rfl,zw _,rfl,Hh (zB _ _),by simp[kI]⟩
 case round =>
  obtain⟨j,rfl,hj,rfl,HB,hsv⟩:=hrel;by_cases hjl:j<all.length
  ·have i1:(j:Int)<(all.length:Int):=by omega
   have i2:(0:Int)≤(j:Int):=by omega
   have hap:∃ g,A=some ⟨g,0,none⟩∧g<wx.heap.size:=by
    rcases HRW.o.2 with ⟨_,h0⟩ | ⟨g,cp,cur,e,_,h6,_⟩
    ·omega
    ·simp only[zC1] at e;exact⟨g,e.1,qA h6⟩
   obtain⟨g,rfl,hgl⟩:=hap;have q0:wr.cell? ⟨g,j,none⟩=some (.int .i64 (all[j]:Nat)):=by
    rw[HB.o.cell (p:=⟨g,j,none⟩) hgl,HRW.o.cellAt j (by omega),zN,zL hjl];rfl
   obtain⟨hnb,⟨x,hx,hl1,hl2,hbk⟩,hsa⟩:=HAL.o _ (zO hjl);have HTK:=Hh (show kI d.t (all.take (j+1))=kI d.t (all.take j)+kQ d.t all[j] by rw[zn hjl,qB9]);generalize all[j]=n at *;have hse:kQ d.t n=(x.links-1)*x.blocks.length:=by unfold kQ;rw[hx]
   have HBR:=Hh (HBX.o.trans (HB.o.mono HBX.o.size));have HST:=Hh (wE (HT.o.below HBR.o) HD.o.ok.tab n hnb hx);simp only[uI,jN] at HST;go_upto_region 9 with (go_at_call 184;refine HST.o.mono ?_;rintro ev w4 ⟨A4,cap4,rfl,hr4,hb4⟩;have HB4:=Hh (HB.o.trans (hb4.mono HB.o.size));clear hb4 hr4);have HB5:=Hh (HB4.o.alloc HB4.o.size (.cells #[.int .i64 x.bytes,.int .i64 x.links,.bool x.exec,.slice A4 x.blocks.length cap4,.int .u32 x.sum.toNat] 254));have HX5:=Hh (zK1 w4 (.cells #[.int .i64 x.bytes,.int .i64 x.links,.bool x.exec,.slice A4 x.blocks.length cap4,.int .u32 x.sum.toNat] 254));generalize w4.alloc (.cells #[.int .i64 x.bytes,.int .i64 x.links,.bool x.exec,.slice A4 x.blocks.length cap4,.int .u32 x.sum.toNat] 254)=w5 at *;have x1:=ce1 HX5.o;have x3:=ce3 HX5.o;have m1:IntKind.i64.wrap ((x.links:Int)-1)=((x.links-1:Nat):Int):=by rw[wrap_i64 (by omega) (by omega)];omega
   have m2:IntKind.i64.wrap (((x.links-1:Nat):Int)*(x.blocks.length:Int))=((kQ d.t n:Nat):Int):=by
    have:((x.links-1:Nat):Int)*(x.blocks.length:Int)=((kQ d.t n:Nat):Int):=by rw[hse];push_cast;rfl
    rw[this,wrap_i64 (by omega) (by omega)]
   have m3:IntKind.i64.wrap (((kI d.t (all.take j):Nat):Int)+((kQ d.t n:Nat):Int))=((kI d.t (all.take (j+1)):Nat):Int):=by rw[HTK.o,wrap_i64 (by omega) (by omega)];omega
   have hs2:kI d.t (all.take (j+1))≤(j+1)*25200000000:=by rw[HTK.o];omega
   have HSE:=Hh hse;clear q0 hx hse hl1 hl2 hbk hsa;go_wp2_with fail;go_roundw
   case rel=>exact⟨j+1,by go_num,hjl,by first | rfl | (simp only[m1,m2,m3]) | trace_state,HB5,hs2⟩
   case measure=>simp[intOf];omega
  ·have i1:¬ (j:Int)<(all.length:Int):=by omega
   obtain rfl:j=all.length:=by omega
   have HR:=Hh HSV.o;go_wp2;go_ret;exact⟨by rw[HR.o];rfl,HBX.o.trans (HB.o.mono HBX.o.size)⟩
end
end Go.Proofs.YtbmkaekimccdgaaGreatDoor
