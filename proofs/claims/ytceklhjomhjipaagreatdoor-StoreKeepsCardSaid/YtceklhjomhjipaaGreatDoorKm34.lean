/- Texts of this claim, merged: StoWhere, Saved, StoPlain. -/
import Derived.Test.YtceklhjomhjipaaGreatDoorKm33
set_option maxHeartbeats 16000000
set_option maxRecDepth 1000000
set_option linter.all false
namespace Go.Proofs.YtceklhjomhjipaaGreatDoor
open Go.RowKit Go.Sort Go.Shelf Stl
def qF5 (s:Sto) (text:List UInt8):Except Nat (List UInt8) :=
 match numberOf text 6 with
 | none=>.error 1
 | some n=>.ok (s.where_ n)
theorem qK1 {B:Nat} {e:TypeId} {k:Nat} {v:Value} {n:Nat} {xs:List Value} {w w':World} (h:w.ownsRow B e k v n xs) (hb:Below w.heap.size w w'):w'.ownsRow B e k v n xs :=
 h.kept (row:=none) ⟨hb.os,hb.tape,hb.output,hb.size,fun j hj _=>hb.block j hj⟩ (by cases hv:v.ownBlock<;>simp)
def qRh (s:Sto) (n:Nat) (q:Pk):List (List UInt8) :=
 match qAi s.d.l q.k with
 | none=>[]
 | some e=>(e.f.filter fun x=>x.2==n).map fun x=>q.name++x.1
structure WhSt (w1 wr:World) (s:Sto) (n:Nat) (zs:List PkX) (i:Nat) (v:Value) (acc:List (List UInt8)):Prop where
 below:Below w1.heap.size w1 wr
 row:wr.ownsRow w1.heap.size 9 1 v acc.length (acc.map encStr)
 eq:acc=((zs.take i).map (·.p)).flatMap (qRh s n)
 few:acc.length≤i*200
 len:∀ x∈acc,x.length≤1000020
structure qRk (w1 wr:World) (n:Nat) (nm:List UInt8) (f:List (List UInt8×Nat)) (acc0:List (List UInt8)) (F:Nat) (A6:Option Addr) (cap6:Nat) (fs:List (List UInt8)) (box:Nat) (cs:Array Value) (j:Nat) (v:Value) (acc:List (List UInt8)):Prop where
 belowW:Below w1.heap.size w1 wr
 row:wr.ownsRow w1.heap.size 9 1 v acc.length (acc.map encStr)
 frow:wr.ownsRow F 9 1 (.slice A6 fs.length cap6) fs.length (fs.map encStr)
 apart:(Value.slice A6 fs.length cap6).ownBlock=none∨(Value.slice A6 fs.length cap6).ownBlock≠v.ownBlock
 box:wr.heap[box]?=some (.cells cs 93 (0,0))
 eq:acc=acc0++((f.take j).filter fun x=>x.2==n).map fun x=>nm++x.1
 few:acc.length≤acc0.length+j
 len:∀ x∈acc,x.length≤1000020
section
variable {w:World} {A:Option Addr} {zs:List PkX} {c:Nat→Col} {b:Nat} {s:Sto} {bd:Nat} {cap:Nat} {R:Option Addr} {rc tp:Nat} {p:Nat→Addr}
theorem qMv (h:StoX w c b s bd A cap zs R rc tp) (hg:qAS s) (hE:Env w c p) (text:List UInt8) (hr:text.length≤1000000) :
  Calls Tryz.prog 46 #[.pointer (some ⟨b,0,none⟩),.string ⟨text.toArray⟩] w (TlPost p w (qF5 s text)):=by
 have hfew:=h.few hg.ok
 have H:=Hh h
 have HG:=Hh hg
 have HE:=Hh hE
 obtain ⟨res,hres⟩:∃ res,res=qF5 s text:=⟨_,rfl⟩
 rw [← hres]
 unfold qF5 at hres
 have HNU:=Hh (qBE text (by omega) w hE.vars)
 clear h hg hE
 go_enter Tryz.func46,Tryz.ntmps46
 cases hn:numberOf text 6 with
 | none =>
  rw [hn] at hres HNU
  have HRS:=Hh (show res=.error 1 from hres)
  clear hn hres
  go_upto_region 3 with (go_at_call 82;refine HNU.out.mono ?_;rintro ev w1 ⟨hb1,n',ok,rfl,hni⟩;have hok:ok=false:=(by rcases hni with ⟨_,h⟩ | ⟨m,h,_⟩;exact h;cases h);subst hok;have HB1:=Hh hb1;clear hb1 hni)
  have hg:w1.cell? ⟨3,0,none⟩=some (.iface 377 (.pointer (some (p 1)))):=((HE.out.errs.later HB1.out).cell 1 (by decide) (by decide)).trans (by rw [qAc p (by decide)])
  go_quiet (fail)
  go_wp2
  go_ret2
  rw [HRS.out]
  exact ⟨_,_,rfl,Below.drewN HB1.out _,by rw [qAc p (by decide)];rfl,by decide⟩
 | some n =>
  rw [hn] at hres HNU
  have HRS:=Hh (show res=.ok (s.where_ n) from hres)
  clear hn hres
  go_upto_region 4 with (go_at_call 82;refine HNU.out.mono ?_;rintro ev w1 ⟨hb1,n',ok,rfl,hni⟩;obtain ⟨rfl,rfl⟩:n'=(n:Int)∧ok=true:=(by rcases hni with ⟨h,_⟩ | ⟨m,h,h1,h2⟩;cases h;cases h;exact ⟨h2,h1⟩);have HB1:=Hh hb1;clear hb1 hni)
  have HX1:=Hh (H.out.below HB1.out)
  have c1:=ce1 HX1.out.own
  have HWH:=Hh (show s.where_ n=qAx ((zs.map (·.p)).flatMap (qRh s n)) from by rw [H.out.eq];rfl)
  obtain ⟨i0,hi,hz0,hz1,hz2⟩:=qGB
  have Hi:=Hh hi
  have Hz0:=Hh hz0
  have Hz1:=Hh hz1
  have Hz2:=Hh hz2
  clear hi hz0 hz1 hz2
  go_upto_region 6 with fail
  clear c1
  go_loopw [8,28] (fun v a wr=>∃ (i:Nat) (acc:List (List UInt8)),a=.int .i64 i∧i≤zs.length∧Hid (WhSt w1 wr s n zs i v acc)) (fun _ a _=>zs.length-(intOf a).toNat)
  case atStart=>exact ⟨0,[],rfl,zx _,Hh ⟨zB _ _,zF1 _ _ _ _,rfl,zx _,by simp⟩⟩
  case round =>
   obtain ⟨i,acc,rfl,hi,HS⟩:=hrel
   by_cases hil:i<zs.length
   ·have i1:(i:Int)<(zs.length:Int):=by omega
    have i2:(0:Int)≤(i:Int):=by omega
    have HXr:=Hh (HX1.out.below HS.out.below)
    obtain ⟨g,hA,hgl,s0,s1,s2⟩:=HXr.out.kept.at hil
    subst hA
    have HTK:=Hh (show ((zs.take (i+1)).map (·.p))=(zs.take i).map (·.p)++[zs[i].p] from by rw [zo hil,zU];rfl)
    have hmem:zs[i].p∈s.l:=by rw [← H.out.eq];exact ze.2 ⟨_,zO hil,rfl⟩
    have hent:∃ e,e∈s.d.l∧e.k=zs[i].p.k:=by
     have h2:zs[i].p.k∈s.d.l.map (·.k):=by rw [← HG.out.ok.ks];exact ze.2 ⟨_,hmem,rfl⟩
     obtain ⟨e,he,hk⟩:=ze.1 h2
     exact ⟨e,he,hk⟩
    obtain ⟨e,hem,hek⟩:=hent
    have heo:=qAt HG.out.ok.dirs.keys hem
    have HROW:=Hh (show qRh s n zs[i].p=(e.f.filter fun x=>x.2==n).map fun x=>zs[i].p.name++x.1 from by unfold qRh;rw [← hek,heo])
    have hnm:=qBO (HG.out.ok.pks.well _ hmem)
    have hkb:=qNQ HG.out.good hem
    have HEM:=Hh hem
    have HEO:=Hh heo
    rw [← hek] at s2
    clear hmem heo hem hek
    generalize zs[i]=y at *
    have hb6:=(zB wr.heap.size wr).alloc (zq _) (.cells #[.string ⟨y.p.name.toArray⟩,.slice y.a y.p.refs.length y.cap,.int .i64 e.k] 93)
    have HY6:=Hh (zK1 wr (.cells #[.string ⟨y.p.name.toArray⟩,.slice y.a y.p.refs.length y.cap,.int .i64 e.k] 93))
    have HBa:=Hh (HS.out.below.trans (hb6.mono HS.out.below.size))
    have HOa:=Hh (HS.out.row.alloc (.cells #[.string ⟨y.p.name.toArray⟩,.slice y.a y.p.refs.length y.cap,.int .i64 e.k] 93))
    clear hb6
    go_upto_region 8 with fail
    clear s0 s1 s2
    generalize wr.alloc (.cells #[.string ⟨y.p.name.toArray⟩,.slice y.a y.p.refs.length y.cap,.int .i64 e.k] 93)=w5 at *
    have HX5:=Hh (HX1.out.below HBa.out)
    have HEv:=Hh (HE.out.below (HB1.out.trans (HBa.out.mono HB1.out.size)))
    have c0:=ce0 HX5.out.own
    have r2:=ce2 HY6.out
    have HDR:=Hh (zB w5.heap.size w5).drew
    have HFL:=Hh (show Calls Tryz.prog 94 #[.pointer (some ⟨bd,0,none⟩),.int .i64 e.k] w5.drew _ from qII (HX5.out.below HDR.out).dirs e.k hkb (HEv.out.errs.later HDR.out) HEO.out)
    have HFF:=Hh (HG.out.ok.dirs.files _ HEM.out)
    have hff2:=qCp HG.out.ok.dirs HEM.out
    have HFLN:=Hh (show (qAv e.n).length=e.f.length by rw [← HFF.out,zT])
    have hfl3:(qAv e.n).length≤200:=by rw [HFLN.out];exact hff2
    generalize qAv e.n=fs at *
    go_region_held3 (fun w'=>w'.cell? ⟨b,0,none⟩=some (.pointer (some ⟨bd,0,none⟩))∧w'.cell? ⟨wr.heap.size,2,none⟩=some (.int .i64 e.k))
     (first
      | exact ⟨c0,r2⟩
      | exact HS6.out
      | go_keep)
     (first
      | (go_at_call 94;refine HFL.out.mono ?_;rintro ev w6 ⟨A6,cap6,rfl,hr6,hb6'⟩;have hb6:Below w5.heap.size w5 w6:=HDR.out.trans hb6';have HR6:=Hh hr6;have HB56:=Hh hb6;have HS6:=Hh (show w6.cell? ⟨b,0,none⟩=some (.pointer (some ⟨bd,0,none⟩))∧w6.cell? ⟨wr.heap.size,2,none⟩=some (.int .i64 e.k) from ⟨(hb6.cell (p:=⟨b,0,none⟩) (lt_of_cell c0)).trans c0,(hb6.cell (p:=⟨wr.heap.size,2,none⟩) (lt_of_cell r2)).trans r2⟩);clear hr6 hb6 hb6')
      | fail)
    clear c0 r2
    have HSf:=Hh (qAQ HR6.out)
    have HB6:=Hh (HBa.out.trans (HB56.out.mono HBa.out.size))
    have HY66:=Hh ((HB56.out.block _ (qAa HY6.out)).trans HY6.out)
    have HOb:=Hh (qK1 HOa.out HB56.out)
    have HAP:=Hh (show (Value.slice A6 fs.length cap6).ownBlock=none∨(Value.slice A6 fs.length cap6).ownBlock≠u8.ownBlock from by
     by_cases hn:(Value.slice A6 fs.length cap6).ownBlock=none
     ·exact .inl hn
     ·refine .inr fun e=>?_
      obtain ⟨k,hk⟩:=Option.ne_none_iff_exists'.1 hn
      have h1:=(HR6.out.lt k hk).1
      have h2:=(HOa.out.lt k (e▸hk)).2
      have h3:w5.heap.size≤k:=h1
      omega)
    go_upto_region 9 with fail
    generalize wr.heap.size=box at *
    go_loopw [8,40] (fun v a wq=>∃ (j:Nat) (acc2:List (List UInt8)),a=.int .i64 j∧j≤fs.length∧Hid (qRk w1 wq n y.p.name e.f acc w5.heap.size A6 cap6 fs box #[.string ⟨y.p.name.toArray⟩,.slice y.a y.p.refs.length y.cap,.int .i64 e.k] j v acc2)) (fun _ a _=>fs.length-(intOf a).toNat)
    case atStart=>exact ⟨0,acc,rfl,zx _,Hh ⟨HB6.out,HOb.out,HR6.out,HAP.out,HY66.out,by simp,zq _,HS.out.len⟩⟩
    case round =>
     obtain ⟨j,acc2,rfl,hj,HQ⟩:=hrel
     by_cases hjl:j<fs.length
     ·have j1:(j:Int)<(fs.length:Int):=by omega
      have j2:(0:Int)≤(j:Int):=by omega
      obtain ⟨g6,off6,hA6,hg6,q6⟩:=(qBI HQ.out.frow).cellAt hjl
      subst hA6
      have hjf:j<e.f.length:=by rw [← HFLN.out];exact hjl
      have hfs:fs[j]=e.f[j].1:=by
       have:=HFF.out
       subst this
       simp
      have HTKq:=Hh (show e.f.take (j+1)=e.f.take j++[e.f[j]] from zo hjf)
      have hfm:(e.f[j].1,e.f[j].2)∈e.f:=zO hjf
      obtain ⟨hna,⟨ls,hsp⟩,_⟩:=qF1 HG.out.ok.dirs HEM.out hfm
      have hql:=qFM HG.out.ok.dirs HEO.out _ hfm
      rw [hfs] at q6
      clear hfs hfm
      generalize e.f[j]=q at *
      obtain ⟨pt,m⟩:=q
      simp only at hna hsp hql q6
      have HBQ1:=Hh (HB1.out.trans (HQ.out.belowW.mono HB1.out.size))
      have HXq:=Hh (HX1.out.below HQ.out.belowW)
      have HEq:=Hh (HE.out.below HBQ1.out)
      have HDRq:=Hh (zB wr.heap.size wr).drew
      have HIN:=Hh (show Calls Tryz.prog 95 #[.pointer (some ⟨bd,0,none⟩),.int .i64 e.k,.string ⟨pt.toArray⟩] wr.drew (fun ev w'=>ev=.returned (.tuple #[.int .i64 m,.nilIface])∧Below wr.drew.heap.size wr.drew w') from by
       have h1:=qFW (p:=p) (HXq.out.below HDRq.out).dirs e.k hkb pt (by omega) (HEq.out.errs.later HDRq.out) (HEq.out.below HDRq.out).max HEO.out
       rw [show qCi s.d e.k pt=.ok m by unfold qCi;rw [HEO.out];simp only [hsp,hna],show qKl p (.ok m)=#[.int .i64 m,.nilIface] from rfl] at h1
       exact h1)
      have c0:=ce0 HXq.out.own
      have HYq:=Hh HQ.out.box
      have r2:=ce2 HYq.out
      clear hna hsp
      go_upto_region 11 with fail
      clear q6
      go_region_held3 (fun w'=>w'.cell? ⟨b,0,none⟩=some (.pointer (some ⟨bd,0,none⟩))∧w'.cell? ⟨box,2,none⟩=some (.int .i64 e.k))
       (first
        | exact ⟨c0,r2⟩
        | exact HS8.out
        | go_keep)
       (first
        | (go_at_call 95;refine HIN.out.mono ?_;rintro ev w8 ⟨rfl,hb8'⟩;have hb8:Below wr.heap.size wr w8:=HDRq.out.trans hb8';have HB8:=Hh hb8;have HS8:=Hh (show w8.cell? ⟨b,0,none⟩=some (.pointer (some ⟨bd,0,none⟩))∧w8.cell? ⟨box,2,none⟩=some (.int .i64 e.k) from ⟨(hb8.cell (p:=⟨b,0,none⟩) (lt_of_cell c0)).trans c0,(hb8.cell (p:=⟨box,2,none⟩) (lt_of_cell r2)).trans r2⟩);clear hb8 hb8')
        | fail)
      clear c0 r2
      have HY8:=Hh ((HB8.out.block _ (qAa HYq.out)).trans HYq.out)
      have HO8:=Hh (qK1 HQ.out.row HB8.out)
      have HF8:=Hh (qK1 HQ.out.frow HB8.out)
      have HB18:=Hh (HQ.out.belowW.trans (HB8.out.mono HQ.out.belowW.size))
      cases hmn:m==n with
      | false =>
       have hne:¬ (m:Int)=(n:Int):=by intro e;rw [show m=n by omega] at hmn;simp at hmn
       have HWN:=Hh (show qRk w1 w8 n y.p.name e.f acc w5.heap.size (some ⟨g6,off6,none⟩) cap6 fs box #[.string ⟨y.p.name.toArray⟩,.slice y.a y.p.refs.length y.cap,.int .i64 e.k] (j+1) u8 acc2 from ⟨HB18.out,HO8.out,HF8.out,HQ.out.apart,HY8.out,by rw [HTKq.out,List.filter_append,zU,← List.append_assoc,← HQ.out.eq];simp [List.filter,hmn],by have:=HQ.out.few;omega,HQ.out.len⟩)
       clear hmn
       go_wp2
       go_roundw
       case rel=>exact ⟨j+1,acc2,by go_num,hjl,HWN⟩
       case measure=>simp [intOf];omega
      | true =>
       obtain rfl:m=n:=eq_of_beq hmn
       clear hmn
       have r0:=ce0 HY8.out
       have HO9:=Hh (HO8.out.alloc (.cells #[.string ((⟨y.p.name.toArray⟩:ByteArray)++⟨pt.toArray⟩)] 9))
       have HF9:=Hh (HF8.out.alloc (.cells #[.string ((⟨y.p.name.toArray⟩:ByteArray)++⟨pt.toArray⟩)] 9))
       have HY9:=Hh (qAj w8 (.cells #[.string ((⟨y.p.name.toArray⟩:ByteArray)++⟨pt.toArray⟩)] 9) HY8.out)
       have HB19:=Hh (HB18.out.alloc HB18.out.size (.cells #[.string ((⟨y.p.name.toArray⟩:ByteArray)++⟨pt.toArray⟩)] 9))
       have HCC:=Hh (show (⟨y.p.name.toArray⟩:ByteArray)++⟨pt.toArray⟩=⟨(y.p.name++pt).toArray⟩ from ByteArray.ext (by simp))
       have hal:acc2.length≤9000:=by have:=HQ.out.few;have:=HS.out.few;omega
       go_wp2_with (at_builtin;refine Stl.wpList_app _ rfl _ _ 22 rfl w1.heap.size 9 i0 (.string ByteArray.empty) 1 16 Tryz.underlying22 Hi.out Hz0.out Hz1.out Hz2.out rfl (by decide) u8 acc2.length _ rfl HO9.out (some ⟨w8.heap.size,0,none⟩) 1 1 [.string ((⟨y.p.name.toArray⟩:ByteArray)++⟨pt.toArray⟩)] rfl rfl (fun h=>by cases h) (qAH _ _ _) (by simp [Value.oneCell']) (by unfold maxLen;omega) (by omega) (zr HB18.out.size (by simp)) ?_;intro A7 c7 w7 hown7 hgr7 hat7;have HOz:=Hh hown7;have HFz:=Hh (HF9.out.kept hgr7 HQ.out.apart);have HYz:=Hh ((hgr7.block _ (qAa HY9.out) (qAT HO9.out HY9.out (by decide))).trans HY9.out);have HAz:=Hh hat7;have HB1z:=Hh (HB19.out.grown hgr7 HB19.out.size (fun k hk=>(HO9.out.lt k hk).1));clear hown7 hgr7 hat7)
       have hapz:(Value.slice (some ⟨g6,off6,none⟩) fs.length cap6).ownBlock=none∨(Value.slice (some ⟨g6,off6,none⟩) fs.length cap6).ownBlock≠(Value.slice A7 (acc2.length+1) c7).ownBlock:=by
        rcases HAz.out with h | h
        ·rw [h];exact HQ.out.apart
        ·rw [h]
         by_cases hn:(Value.slice (some ⟨g6,off6,none⟩) fs.length cap6).ownBlock=none
         ·exact .inl hn
         ·refine .inr fun e=>?_
          have:=(HF9.out.lt _ e).2
          omega
       have HWN:=Hh (show qRk w1 w7 m y.p.name e.f acc w5.heap.size (some ⟨g6,off6,none⟩) cap6 fs box #[.string ⟨y.p.name.toArray⟩,.slice y.a y.p.refs.length y.cap,.int .i64 e.k] (j+1) (.slice A7 (acc2.length+1) c7) (acc2++[y.p.name++pt]) from ⟨HB1z.out,by have:=HOz.out;rw [HCC.out] at this;simpa [encStr] using this,HFz.out,hapz,HYz.out,by rw [HTKq.out,List.filter_append,zU,← List.append_assoc,← HQ.out.eq];simp [List.filter],by have:=HQ.out.few;simp;omega,fun x hx=>by
        rcases zX.1 hx with h | h
        ·exact HQ.out.len x h
        ·rw [zh.1 h,zP];omega⟩)
       go_wp2
       go_roundw
       case rel=>exact ⟨j+1,_,by go_num,hjl,HWN⟩
       case measure=>simp [intOf];omega
     ·have j1:¬ (j:Int)<(fs.length:Int):=by omega
      obtain rfl:j=fs.length:=by omega
      have heq:=HQ.out.eq
      rw [HFLN.out,zm,← HROW.out] at heq
      have hfw:=HQ.out.few
      have hfw0:=HS.out.few
      have HWN:=Hh (show WhSt w1 wr s n zs (i+1) u8 acc2 from ⟨HQ.out.belowW,HQ.out.row,by rw [HTK.out,List.flatMap_append,← HS.out.eq,heq];simp,by omega,HQ.out.len⟩)
      clear heq hfw hfw0
      go_wp2
      go_roundw
      case rel=>exact ⟨i+1,acc2,by go_num,hil,HWN⟩
      case measure=>simp [intOf];omega
   ·have i1:¬ (i:Int)<(zs.length:Int):=by omega
    obtain rfl:i=zs.length:=by omega
    obtain ⟨A3,c3,e3⟩:=Stl.owns_slice _ HS.out.row
    subst e3
    have hfew2:=HS.out.few
    have heq:=HS.out.eq
    rw [zm] at heq
    have HJ:=Hh (qBq (qBI HS.out.row) (qBG HS.out.row) (by omega) (by
     have h1:=qBV 1000020 acc HS.out.len
     have h2:acc.length*(1000020+1)≤8000*1000021:=Nat.mul_le_mul (by omega) (zq _)
     omega))
    have HEQ:=Hh heq
    clear heq hfew2
    go_wp2_with (go_at_call 86;refine HJ.out.mono ?_;rintro ev w9 ⟨rfl,hb9⟩;have HB9:=Hh (HB1.out.trans ((HS.out.below.trans (hb9.mono HS.out.below.size)).mono HB1.out.size));clear hb9)
    go_ret2
    rw [HRS.out,HWH.out,← HEQ.out]
    exact ⟨_,_,rfl,HB9.out,rfl,rfl⟩
end
section
variable {w:World} {c:Nat→Col} {b:Nat} {d:Stl.Dirs} {p:Nat→Addr}
theorem qN0 (h:DirsAt w c b d) (hd:DirsGood d) :
  Calls Tryz.prog 88 #[.pointer (some ⟨b,0,none⟩)] w fun e w'=>e=.returned (.int .i64 (d.t.saved:Nat))∧Below w.heap.size w w':=by
 have HD:=Hh hd
 obtain ⟨bt,bmm,nd,fm,h⟩:=h
 have HTB:=Hh (qB3 h)
 have HT:=Hh h.tab
 have HALL:=Hh (qFC h.tab hd.inos)
 have HSV:=Hh (qKP d.t)
 have hal:∀ n∈d.t.all,n≤1000000∧(∃ x,d.t.at_ n=some x∧1≤x.links∧x.links≤200000000∧x.blocks.length≤126)∧qBH d.t n≤25200000000:=fun n hn=>by
  have h1:=qER.1 hn
  obtain ⟨x,hx⟩:=zz.1 h1
  have h2:=qDR hx
  have h3:=hd.inos
  have h4:=qEG hd.ok hx
  have h5:=hd.ents
  have h6:=hd.ok.tab.need n x hx
  have h7:=hd.ok.tab.bytes n x hx
  have h8:=hd.ok.tab.links n x hx
  have h9:x.blocks.length≤126:=by rw [h6];unfold qAA;omega
  refine ⟨by omega,⟨x,hx,h8,by omega,h9⟩,?_⟩
  unfold qBH
  rw [hx]
  simp only
  have:(x.links-1)*x.blocks.length≤200000000*126:=Nat.mul_le_mul (by omega) h9
  omega
 have hll:d.t.all.length≤1000000:=by
  have h3:=hd.inos
  unfold Tab.all
  have:=zS (fun n=>(d.t.at_ n).isSome) (List.range d.t.l.length)
  simp at this ⊢
  omega
 generalize d.t.saved=res at HSV ⊢
 generalize d.t.all=all at HALL hal hll HSV
 have HAL:=Hh hal
 clear h hd hal
 go_enter Tryz.func88,Tryz.ntmps88
 go_upto_region 6 with (first
  | (go_at_call 52;refine HTB.out.mono ?_;rintro ev wz ⟨rfl,rfl⟩)
  | (go_at_call 53;refine HALL.out.mono ?_;rintro ev wx ⟨A,cap,rfl,hr,hb⟩;have HRW:=Hh hr;have HBX:=Hh hb;clear hr hb))
 go_loopw [3,16] (fun v a wr=>∃ j:Nat,a=.int .i64 j∧j≤all.length∧v=.int .i64 (qBx d.t (all.take j):Nat)∧Hid (Below wx.heap.size wx wr)∧qBx d.t (all.take j)≤j*25200000000) (fun _ a _=>all.length-(intOf a).toNat)
 case atStart=>exact ⟨0,rfl,zx _,rfl,Hh (zB _ _),by simp [qBx]⟩
 case round =>
  obtain ⟨j,rfl,hj,rfl,HB,hsv⟩:=hrel
  by_cases hjl:j<all.length
  ·have i1:(j:Int)<(all.length:Int):=by omega
   have i2:(0:Int)≤(j:Int):=by omega
   have hap:∃ g,A=some ⟨g,0,none⟩∧g<wx.heap.size:=by
    rcases HRW.out.2 with ⟨_,h0⟩ | ⟨g,cp,cur,e,_,h6,_⟩
    ·omega
    ·simp only [zC1] at e
     exact ⟨g,e.1,qAa h6⟩
   obtain ⟨g,rfl,hgl⟩:=hap
   have q0:wr.cell? ⟨g,j,none⟩=some (.int .i64 (all[j]:Nat)):=by
    rw [HB.out.cell (p:=⟨g,j,none⟩) hgl,HRW.out.cellAt j (by omega),zN,zL hjl]
    rfl
   obtain ⟨hnb,⟨x,hx,hl1,hl2,hbk⟩,hsa⟩:=HAL.out _ (zO hjl)
   have HTK:=Hh (show qBx d.t (all.take (j+1))=qBx d.t (all.take j)+qBH d.t all[j] by rw [zo hjl,qFd])
   generalize all[j]=n at *
   have hse:qBH d.t n=(x.links-1)*x.blocks.length:=by unfold qBH;rw [hx]
   have HBR:=Hh (HBX.out.trans (HB.out.mono HBX.out.size))
   have HST:=Hh (qBS (HT.out.below HBR.out) HD.out.ok.tab n hnb hx)
   simp only [qFw,qAz] at HST
   go_upto_region 9 with (go_at_call 54;refine HST.out.mono ?_;rintro ev w4 ⟨A4,cap4,rfl,hr4,hb4⟩;have HB4:=Hh (HB.out.trans (hb4.mono HB.out.size));clear hb4 hr4)
   have HB5:=Hh (HB4.out.alloc HB4.out.size (.cells #[.int .i64 x.bytes,.int .i64 x.links,.bool x.exec,.slice A4 x.blocks.length cap4,.int .u32 x.sum.toNat] 71))
   have HX5:=Hh (zK1 w4 (.cells #[.int .i64 x.bytes,.int .i64 x.links,.bool x.exec,.slice A4 x.blocks.length cap4,.int .u32 x.sum.toNat] 71))
   generalize w4.alloc (.cells #[.int .i64 x.bytes,.int .i64 x.links,.bool x.exec,.slice A4 x.blocks.length cap4,.int .u32 x.sum.toNat] 71)=w5 at *
   have x1:=ce1 HX5.out
   have x3:=ce3 HX5.out
   have m1:IntKind.i64.wrap ((x.links:Int)-1)=((x.links-1:Nat):Int):=by rw [wrap_i64 (by omega) (by omega)];omega
   have m2:IntKind.i64.wrap (((x.links-1:Nat):Int)*(x.blocks.length:Int))=((qBH d.t n:Nat):Int):=by
    have:((x.links-1:Nat):Int)*(x.blocks.length:Int)=((qBH d.t n:Nat):Int):=by rw [hse];push_cast;rfl
    rw [this,wrap_i64 (by omega) (by omega)]
   have m3:IntKind.i64.wrap (((qBx d.t (all.take j):Nat):Int)+((qBH d.t n:Nat):Int))=((qBx d.t (all.take (j+1)):Nat):Int):=by rw [HTK.out,wrap_i64 (by omega) (by omega)];omega
   have hs2:qBx d.t (all.take (j+1))≤(j+1)*25200000000:=by rw [HTK.out];omega
   have HSE:=Hh hse
   clear q0 hx hse hl1 hl2 hbk hsa
   go_wp2_with fail
   go_roundw
   case rel=>exact ⟨j+1,by go_num,hjl,by first | rfl | (simp only [m1,m2,m3]) | trace_state,HB5,hs2⟩
   case measure=>simp [intOf];omega
  ·have i1:¬ (j:Int)<(all.length:Int):=by omega
   obtain rfl:j=all.length:=by omega
   have HR:=Hh HSV.out
   go_wp2
   go_ret
   exact ⟨by rw [HR.out];rfl,HBX.out.trans (HB.out.mono HBX.out.size)⟩
end
def qEY (s:Sto) (line:List UInt8):Option (List UInt8) :=
 if line=[108,105,115,116] then some (qAx (s.l.map (·.name)))
 else if line=[114,111,111,116,115] then some (qAx s.roots)
 else if line=[102,114,101,101] then some (dec s.d.t.free.length)
 else if line=[115,97,118,101,100] then some (dec s.d.t.saved)
 else if line=[115,99,97,110] then some (qAx (s.d.t.scan.map dec))
 else none
def qQT (w:World) (r:Option (List UInt8)) (ev:Ending) (w':World):Prop :=
 ∃ (a:ByteArray) (is:Bool),ev=.returned (.tuple #[.string a,.bool is])∧Below w.heap.size w w' ∧
  match r with
  | none=>is=false
  | some x=>is=true∧a=⟨x.toArray⟩
theorem qMU {α:Type} (f:α→Nat) (m:Nat):∀ l:List α,(∀ x∈l,f x≤m)→(l.map f).sum≤l.length*m
 | [],_=>by simp
 | x::r,h=>by
  have h1:=qMU f m r (fun y hy=>h y (List.mem_cons_of_mem _ hy))
  have h2:=h x List.mem_cons_self
  simp only [zV,List.sum_cons,zQ,Nat.add_mul]
  omega
theorem qMD {t:Tab}:t.all.length≤t.l.length:=by
 unfold Tab.all
 have:=zS (fun n=>(t.at_ n).isSome) (List.range t.l.length)
 simpa using this
theorem qOt {d:Stl.Dirs} (hd:DirsGood d):d.t.saved≤25200000000000000:=by
 rw [qKP]
 have h1:=qMU (qBH d.t) 25200000000 d.t.all (fun n hn=>by
  have h1:=qER.1 hn
  obtain ⟨x,hx⟩:=zz.1 h1
  have h4:=qEG hd.ok hx
  have h5:=hd.ents
  have h6:=hd.ok.tab.need n x hx
  have h7:=hd.ok.tab.bytes n x hx
  have h9:x.blocks.length≤126:=by rw [h6];unfold qAA;omega
  unfold qBH
  rw [hx]
  simp only
  have:(x.links-1)*x.blocks.length≤200000000*126:=Nat.mul_le_mul (by omega) h9
  omega)
 have h2:=qMD (t:=d.t)
 have h3:=hd.inos
 unfold qBx
 have:d.t.all.length*25200000000≤1000000*25200000000:=Nat.mul_le_mul (by omega) (zq _)
 omega
theorem qQh {t:Tab}:t.free.length≤t.disk.length:=by
 unfold Tab.free
 have:=zS (fun k=>!t.isUsed k) (List.range t.disk.length)
 simpa using this
theorem qQi {d:Stl.Dirs} (hd:DirsGood d):d.t.scan.length≤1000000∧∀ n∈d.t.scan,n≤1000000:=by
 have h3:=hd.inos
 refine ⟨?_,fun n hn=>?_⟩
 ·unfold Tab.scan
  exact zr (zS _ _) (zr qMD h3)
 ·unfold Tab.scan at hn
  have h1:=qER.1 (zZ.1 hn).1
  obtain ⟨x,hx⟩:=zz.1 h1
  have:=qDR hx
  omega
theorem qQ1 (n:Nat) (h:n≤1000000):(dec n).length≤1000001:=by
 unfold dec
 have:=qCA (n+1) n
 omega
section
variable {w:World} {A:Option Addr} {zs:List PkX} {c:Nat→Col} {b:Nat} {s:Sto} {bd:Nat} {cap:Nat} {R:Option Addr} {rc tp:Nat} {p:Nat→Addr}
theorem qNH (h:StoX w c b s bd A cap zs R rc tp) (hg:qAS s) (hE:Env w c p) (line:List UInt8) :
  Calls Tryz.prog 43 #[.pointer (some ⟨b,0,none⟩),.string ⟨line.toArray⟩] w (qQT w (qEY s line)):=by
 have hfew:=h.few hg.ok
 have hE2:=hE
 obtain ⟨bt,bm,nd,fm,hdi⟩:=h.dirs
 have HTB:=Hh (qB3 hdi)
 have HTA:=Hh hdi.tab
 have H:=Hh h
 have HG:=Hh hg
 have HE:=Hh hE
 obtain ⟨res,hres⟩:∃ res,res=qEY s line:=⟨_,rfl⟩
 rw [← hres]
 unfold qEY at hres
 clear h hg hE hE2 hdi
 go_enter Tryz.func43,Tryz.ntmps43
 have c0:=ce0 H.out.own
 have c2:=ce2 H.out.own
 cases h1:line==[108,105,115,116] with
 | true =>
  rw [zM1 (eq_of_beq h1)] at hres
  have HRS:=Hh hres
  have HNM:=Hh (qGU H.out (by omega))
  have HNE:=Hh (show s.l.map (·.name)=zs.map (·.p.name) by rw [← H.out.eq,zW];rfl)
  have HJL:=Hh (show (qAx (zs.map (·.p.name))).length≤140737488355328 from by
   rw [← HNE.out]
   have h2:=qBV 12 (s.l.map (·.name)) (fun x hx=>by
    obtain ⟨q,hq,rfl⟩:=ze.1 hx
    exact qBO (HG.out.ok.pks.well q hq))
   have h3:=HG.out.ok.pks.many
   rw [zT] at h2
   have h4:s.l.length*(12+1)≤40*13:=Nat.mul_le_mul h3 (zq _)
   omega)
  have hnl:(zs.map (·.p.name)).length≤1000:=by rw [zT];omega
  clear hres c0 c2
  generalize zs.map (·.p.name)=ns at *
  go_wp2_with (first
   | (go_at_call 77;refine HNM.out.mono ?_;rintro ev w1 ⟨A1,cap1,rfl,hr1,hb1⟩;have HR1:=Hh hr1;have HB1:=Hh hb1;have HJ:=Hh (qBq (qBI hr1) (qBG hr1) (by omega) HJL.out);clear hr1 hb1)
   | (go_at_call 86;refine HJ.out.mono ?_;rintro ev w2 ⟨rfl,hb2⟩;have HB2:=Hh (HB1.out.trans (hb2.mono HB1.out.size));clear hb2)
   | fail)
  go_ret2
  rw [HRS.out,HNE.out]
  exact ⟨_,_,rfl,HB2.out,rfl,rfl⟩
 | false =>
  rw [zL1 (by simpa using h1)] at hres
  cases h2:line==[114,111,111,116,115] with
  | true =>
   rw [zM1 (eq_of_beq h2)] at hres
   have HRS:=Hh hres
   have hfn:=qEc HG.out.ok.pks HG.out.ok.rise HG.out.ok.roots
   have HJ:=Hh (qBq (qBI H.out.roots.1) (qBG H.out.roots.1) (by omega) (by omega))
   clear hres c0
   go_wp2_with (go_at_call 86;refine HJ.out.mono ?_;rintro ev w2 ⟨rfl,hb2⟩;have HB2:=Hh hb2;clear hb2)
   go_ret2
   rw [HRS.out]
   exact ⟨_,_,rfl,HB2.out,rfl,rfl⟩
  | false =>
   rw [zL1 (by simpa using h2)] at hres
   clear c2
   cases h3:line==[102,114,101,101] with
   | true =>
    rw [zM1 (eq_of_beq h3)] at hres
    have HRS:=Hh hres
    have HFR:=Hh (qFY HTA.out HG.out.good.disk)
    have hfl:=qQh (t:=s.d.t)
    have hfd:=HG.out.good.disk
    clear hres
    go_wp2_with (first
     | (go_at_call 52;refine HTB.out.mono ?_;rintro ev wz ⟨rfl,rfl⟩)
     | (go_at_call 87;refine HFR.out.mono ?_;rintro ev w1 ⟨rfl,hb1⟩;have HB1:=Hh hb1;clear hb1)
     | (go_at_call 71;refine (qDq _ (by omega) _ (HE.out.below HB1.out).vars).mono ?_;rintro ev w2 ⟨rfl,hb2⟩;have HB2:=Hh (HB1.out.trans (hb2.mono HB1.out.size));clear hb2)
     | fail)
    go_ret2
    rw [HRS.out]
    exact ⟨_,_,rfl,HB2.out,rfl,rfl⟩
   | false =>
    rw [zL1 (by simpa using h3)] at hres
    cases h4:line==[115,97,118,101,100] with
    | true =>
     rw [zM1 (eq_of_beq h4)] at hres
     have HRS:=Hh hres
     have HSV:=Hh (qN0 H.out.dirs HG.out.good)
     have hsl:=qOt HG.out.good
     clear hres
     go_wp2_with (first
      | (go_at_call 88;refine HSV.out.mono ?_;rintro ev w1 ⟨rfl,hb1⟩;have HB1:=Hh hb1;clear hb1)
      | (go_at_call 71;refine (qDq _ (by omega) _ (HE.out.below HB1.out).vars).mono ?_;rintro ev w2 ⟨rfl,hb2⟩;have HB2:=Hh (HB1.out.trans (hb2.mono HB1.out.size));clear hb2)
      | fail)
     go_ret2
     rw [HRS.out]
     exact ⟨_,_,rfl,HB2.out,rfl,rfl⟩
    | false =>
     rw [zL1 (by simpa using h4)] at hres
     cases h5:line==[115,99,97,110] with
     | false =>
      rw [zL1 (by simpa using h5)] at hres
      have HRS:=Hh hres
      clear hres
      go_wp2
      go_ret2
      rw [HRS.out]
      exact ⟨_,_,rfl,zB _ _,rfl⟩
     | true =>
      rw [zM1 (eq_of_beq h5)] at hres
      have HRS:=Hh hres
      have HSC:=Hh (qON HTA.out HG.out.ok.dirs.tab HG.out.good.disk HG.out.good.inos HE.out.errs)
      have hsl:=qQi HG.out.good
      have HSL:=Hh hsl.2
      have hsl1:=hsl.1
      generalize s.d.t.scan=sc at *
      clear hres hsl
      go_upto_region 13 with (first
       | (go_at_call 52;refine HTB.out.mono ?_;rintro ev wz ⟨rfl,rfl⟩)
       | (go_at_call 89;refine HSC.out.mono ?_;rintro ev w1 ⟨A1,cap1,rfl,hr1,hb1⟩;have HR1:=Hh hr1;have HB1:=Hh hb1;clear hr1 hb1)
       | fail)
      clear c0
      obtain ⟨i0,hi,hz0,hz1,hz2⟩:=qGB
      have Hi:=Hh hi
      have Hz0:=Hh hz0
      have Hz1:=Hh hz1
      have Hz2:=Hh hz2
      clear hi hz0 hz1 hz2
      go_loopw [6,48] (fun v a wr=>∃ (j:Nat),a=.int .i64 j∧j≤sc.length∧Hid (Below w1.heap.size w1 wr)∧Hid (wr.ownsRow w1.heap.size 9 1 v j (((sc.take j).map dec).map encStr))) (fun _ a _=>sc.length-(intOf a).toNat)
      case atStart=>exact ⟨0,rfl,zx _,Hh (zB _ _),Hh (zF1 _ _ _ _)⟩
      case round =>
       obtain ⟨j,rfl,hj,HB,HO⟩:=hrel
       by_cases hjl:j<sc.length
       ·have i1:(j:Int)<(sc.length:Int):=by omega
        have i2:(0:Int)≤(j:Int):=by omega
        have hap:∃ g,A1=some ⟨g,0,none⟩∧g<w1.heap.size:=by
         rcases HR1.out.2 with ⟨_,h0⟩ | ⟨g,cp,cur,e,_,h6,_⟩
         ·omega
         ·simp only [zC1] at e
          exact ⟨g,e.1,qAa h6⟩
        obtain ⟨g,rfl,hgl⟩:=hap
        have q0:wr.cell? ⟨g,j,none⟩=some (.int .i64 (sc[j]:Nat)):=by
         rw [HB.out.cell (p:=⟨g,j,none⟩) hgl,HR1.out.cellAt j (by omega),zN,zL hjl]
         rfl
        have HTK:=Hh (show ((sc.take (j+1)).map dec).map encStr=((sc.take j).map dec).map encStr++[.string ⟨(dec sc[j]).toArray⟩] by
         rw [zo hjl,zU,zU];rfl)
        have hnb:=HSL.out _ (zO hjl)
        generalize sc[j]=n at *
        have HIT:=Hh (qDq n (by omega) wr (HE.out.below (HB1.out.trans (HB.out.mono HB1.out.size))).vars)
        go_upto_region 15 with fail
        clear q0
        go_wp2_with (first
         | (go_at_call 71;refine HIT.out.mono ?_;rintro ev w6 ⟨rfl,hb6⟩;have HB6:=Hh (HB.out.trans (hb6.mono HB.out.size));have HO6:=Hh ((qK1 HO.out hb6).alloc (.cells #[.string ⟨(dec n).toArray⟩] 9));have HB7:=Hh (HB6.out.alloc HB6.out.size (.cells #[.string ⟨(dec n).toArray⟩] 9));clear hb6)
         | (at_builtin;refine Stl.wpList_app _ rfl _ _ 22 rfl w1.heap.size 9 i0 (.string ByteArray.empty) 1 16 Tryz.underlying22 Hi.out Hz0.out Hz1.out Hz2.out rfl (by decide) u6 j _ rfl HO6.out (some ⟨w6.heap.size,0,none⟩) 1 1 [.string ⟨(dec n).toArray⟩] rfl rfl (fun h=>by cases h) (qAH _ _ _) (by simp [Value.oneCell']) (by unfold maxLen;omega) (by omega) (zr HB6.out.size (by simp)) ?_;intro A7 c7 w7 hown7 hgr7 hat7;have HO8:=Hh hown7;have HB8:=Hh (HB7.out.grown hgr7 HB7.out.size (fun k hk=>(HO6.out.lt k hk).1));clear hown7 hgr7 hat7)
         | fail)
        go_roundw
        case rel=>exact ⟨j+1,by go_num,hjl,HB8,Hh (by rw [HTK.out];exact HO8.out)⟩
        case measure=>simp [intOf];omega
       ·have i1:¬ (j:Int)<(sc.length:Int):=by omega
        obtain rfl:j=sc.length:=by omega
        obtain ⟨A3,c3,e3⟩:=Stl.owns_slice _ HO.out
        subst e3
        have ho:=HO.out
        rw [zm] at ho
        have HJ:=Hh (show Calls Tryz.prog 86 #[.slice A3 sc.length c3] wr _ from by
         have h1:=qBq (w:=wr) (A:=A3) (cap:=c3) (l:=sc.map dec) (by have:=qAQ ho;rwa [zT]) (by rw [zT];exact qBG ho) (by rw [zT];omega) (by
          have:=qBV 1000001 (sc.map dec) (fun x hx=>by obtain ⟨q,hq,rfl⟩:=ze.1 hx;exact qQ1 q (HSL.out q hq))
          rw [zT] at this
          have h2:sc.length*(1000001+1)≤1000000*1000002:=Nat.mul_le_mul hsl1 (zq _)
          omega)
         rw [zT] at h1
         exact h1)
        clear ho
        go_wp2_with (go_at_call 86;refine HJ.out.mono ?_;rintro ev w9 ⟨rfl,hb9⟩;have HB9:=Hh (HB1.out.trans ((HB.out.trans (hb9.mono HB.out.size)).mono HB1.out.size));clear hb9)
        go_ret2
        rw [HRS.out]
        exact ⟨_,_,rfl,HB9.out,rfl,rfl⟩
end
end Go.Proofs.YtceklhjomhjipaaGreatDoor
