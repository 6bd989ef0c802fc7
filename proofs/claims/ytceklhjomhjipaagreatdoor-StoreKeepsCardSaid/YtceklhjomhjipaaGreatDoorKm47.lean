/- Texts of this claim, merged: Recovered, OpenPure, Opened, SameStat. -/
import Derived.Test.YtceklhjomhjipaaGreatDoorKm46
set_option maxHeartbeats 16000000
set_option maxRecDepth 1000000
set_option linter.all false
namespace Go.Proofs.YtceklhjomhjipaaGreatDoor
open Go.RowKit Go.Sort Go.Shelf Stl
theorem qP2 {B:Nat} {e:TypeId} {k:Nat} {v:Value} {n:Nat} {xs:List Value} {w w':World} (h:w.ownsRow B e k v n xs) (hb:Below w.heap.size w w'):w'.ownsRow B e k v n xs :=
 h.kept (row:=none) ⟨hb.os,hb.tape,hb.output,hb.size,fun j hj _=>hb.block j hj⟩ (by cases hv:v.ownBlock<;>simp)
theorem qLq {w:World} {O:Nat→Prop} {A:Option Addr} {n cap m:Nat} {xs:List Value} (h:QueueAt w O A n cap xs) (hm:m≤n):QueueAt w O A m m (xs.take m):=by
 have hl:=h.len
 obtain ⟨b,off,hc,h2,h3⟩:=h
 have hle:=hc.le
 exact ⟨b,off,⟨zq _,fun h0=>hc.addr (by omega),fun h0=>hc.lt (by omega),by rw [List.length_take];omega,fun j u hu=>hc.olds j u (by
  rw [List.getElem?_take] at hu
  split at hu
  ·exact hu
  ·cases hu),fun j hj=>by omega⟩,fun h0=>h2 (by omega),by omega⟩
theorem qIb {w:World} {O:Nat→Prop} {A:Option Addr} {cap:Nat} {l:List UInt8} (h:QueueAt w O A l.length cap (qMe l)) :
  (convert 52 9 (.slice A l.length cap)).run Tryz.prog w=.ok (.string ⟨l.toArray⟩) w:=by
 obtain ⟨b,off,hc,_,_⟩:=h
 have hle:=hc.le
 cases A with
 | none =>
  have h0:l=[]:=by
   rcases Nat.eq_zero_or_pos cap with h | h
   ·exact zH (by omega)
   ·exact absurd (hc.addr h) (by simp)
  subst h0
  rw [run_convert_bytes_string w 52 9 5 none _ cap Tryz.underlying52 Tryz.underlying5 Tryz.underlying9]
  simp [Conv.bytesToString]
  rfl
 | some a =>
  refine run_convert_bytes_back w 52 9 5 a cap l Tryz.underlying52 Tryz.underlying5 Tryz.underlying9 fun j hj=>?_
  have h0:=hc.addr (by omega)
  injection h0 with h0
  subst h0
  have e1:(⟨b,off,none⟩:Addr).add j=⟨b,off+j,none⟩:=by unfold Addr.add;split<;>simp_all
  rw [e1]
  refine hc.olds j _ ?_
  simp [byteCells,hj]
def qO8 (w:World) (r:List (List UInt8)×Nat) (e:Ending) (w':World):Prop :=
 ∃ (A:Option Addr) (cap:Nat),e=.returned (.tuple #[.slice A r.1.length cap,.int .i64 r.2])∧w'.ownsRow w.heap.size 9 1 (.slice A r.1.length cap) r.1.length (r.1.map encStr)∧Below w.heap.size w w'
structure RdSt (w wr:World) (s:List UInt8) (at_:Nat) (out:List (List UInt8)) (v:Value):Prop where
 below:Below w.heap.size w wr
 up:ReadUp s at_ out
 row:wr.ownsRow w.heap.size 9 1 v out.length (out.map encStr)
 few:out.length≤at_
theorem qPA (s:List UInt8) (hs:s.length≤2000000) (w:World) (hv:LibVars w) :
  Calls Tryz.prog 51 #[.string ⟨s.toArray⟩] w (qO8 w (qAn (s.length+1) s)):=by
 have HV:=Hh hv
 obtain ⟨res,hres⟩:∃ res,res=qAn (s.length+1) s:=⟨_,rfl⟩
 rw [← hres]
 have HRES:=Hh hres
 clear hv hres
 obtain ⟨i0,hi,hz0,hz1,hz2⟩:=qGB
 have Hi:=Hh hi
 have Hz0:=Hh hz0
 have Hz1:=Hh hz1
 have Hz2:=Hh hz2
 clear hi hz0 hz1 hz2
 go_enter Tryz.func51,Tryz.ntmps51
 go_wp2_with fail
 go_loopw [4,5] (fun v a wr=>∃ (at_:Nat) (out:List (List UInt8)),a=.int .i64 at_∧Hid (RdSt w wr s at_ out v)) (fun _ a _=>s.length-(intOf a).toNat)
 case atStart=>exact ⟨0,[],rfl,Hh ⟨zB _ _,qJk s,zF1 _ _ _ _,zq _⟩⟩
 case round =>
  obtain ⟨at_,out,rfl,HS⟩:=hrel
  have hle:=HS.out.up.le
  have hfew:=HS.out.few
  have i1:(at_:Int)≤(s.length:Int):=by omega
  have i2:(0:Int)≤(at_:Int):=by omega
  have hon:=qQd (s.drop at_) (by rw [List.length_drop];omega) wr (HV.out.later HS.out.below)
  rw [← extract_drop] at hon
  cases ho:qA0 (s.drop at_) with
  | none =>
   rw [ho] at hon
   have HON:=Hh hon
   have HEND:=Hh (show res=(out,at_) from HRES.out.trans (HS.out.up.done ho))
   obtain ⟨A3,c3,e3⟩:=Stl.owns_slice _ HS.out.row
   subst e3
   clear hon ho
   go_wp2_with (go_at_call 100;refine HON.out.mono ?_;rintro ev w2 ⟨hb2,a2,is2,rfl,rfl⟩;have HB2:=Hh hb2;clear hb2)
   go_ret2
   rw [HEND.out]
   exact ⟨A3,c3,rfl,qP2 HS.out.row HB2.out,HS.out.below.trans (HB2.out.mono HS.out.below.size)⟩
  | some r =>
   rw [ho] at hon
   have HON:=Hh hon
   obtain ⟨hup,hat⟩:=HS.out.up.more ho
   have HUP:=Hh hup
   have hpos:=qET r
   have hrl:r.length≤(record r).length:=by unfold record;simp only [zP,zQ];omega
   have HRE:=Hh (fun (W:World) (hb:Below w.heap.size w W)=>qE0 r (by omega) W (HV.out.later hb))
   have HO:=Hh HS.out.row
   clear hon ho hup
   generalize record r=rec at *
   go_upto_region 6 with (go_at_call 100;refine HON.out.mono ?_;rintro ev w2 ⟨hb2,a2,is2,rfl,rfl,rfl⟩;have HB2:=Hh (HS.out.below.trans (hb2.mono HS.out.below.size));have HO2:=Hh ((qP2 HO.out hb2).alloc (.cells #[.string ⟨r.toArray⟩] 9));clear hb2)
   have HB3:=Hh (HB2.out.alloc HB2.out.size (.cells #[.string ⟨r.toArray⟩] 9))
   go_wp2_with (first
    | (at_builtin;refine Stl.wpList_app _ rfl _ _ 22 rfl w.heap.size 9 i0 (.string ByteArray.empty) 1 16 Tryz.underlying22 Hi.out Hz0.out Hz1.out Hz2.out rfl (by decide) u4 out.length _ rfl HO2.out (some ⟨w2.heap.size,0,none⟩) 1 1 [.string ⟨r.toArray⟩] rfl rfl (fun h=>by cases h) (qAH _ _ _) (by simp [Value.oneCell']) (by unfold maxLen;omega) (by omega) (zr HB2.out.size (by simp)) ?_;intro A7 c7 w7 hown7 hgr7 hat7;have HO7:=Hh hown7;have HB7:=Hh (HB3.out.grown hgr7 HB3.out.size (fun k hk=>(HO2.out.lt k hk).1));clear hown7 hgr7 hat7)
    | (go_at_call 47;refine (HRE.out _ HB7.out).mono ?_;rintro ev w8 ⟨rfl,hb8⟩;have HB8:=Hh (HB7.out.trans (hb8.mono HB7.out.size));have HO8:=Hh (qP2 HO7.out hb8);clear hb8))
   go_roundw
   case rel=>exact ⟨at_+rec.length,out++[r],by go_num,Hh ⟨HB8.out,HUP.out,by rw [zP,zU];exact HO8.out,by rw [zP];simp only [zQ,List.length_nil];omega⟩⟩
   case measure=>simp [intOf];omega
def qMu (w:World) (c:Nat→Col) (b:Nat) (r:List (List UInt8)×Stl.Tape) (e:Ending) (w':World):Prop :=
 ∃ (A:Option Addr) (cap:Nat) (c2:Nat→Col),e=.returned (.tuple #[.slice A r.1.length cap,.nilIface])∧Ext w w' c c2 qAY∧TapeAt w' c2 b r.2∧RoStrs w' c2 A r.1
theorem qJG (s:List UInt8):(qAn (s.length+1) s).2≤s.length:=by
 have go:∀ (f:Nat) (x:List UInt8),(qAn f x).2≤x.length:=by
  intro f
  induction f with
  | zero=>intro x;exact zx _
  | succ f ih =>
   intro x
   unfold qAn
   cases h:qA0 x with
   | none=>exact zx _
   | some r =>
    obtain ⟨y,hy⟩:=qD0 h
    have hl:x.length=(record r).length+y.length:=by rw [hy,zP]
    have h2:=ih (x.drop (record r).length)
    rw [List.length_drop] at h2
    simp only
    omega
 exact go _ _
theorem qM4 (l:List UInt8) (n:Nat):qMe (l.take n)=(qMe l).take n:=by simp [byteCells,List.map_take]
section
variable {w:World} {c:Nat→Col} {b:Nat} {t:Stl.Tape} {p:Nat→Addr}
theorem TapeIn.clip {A:Option Addr} {cap:Nat} (h:TapeIn w c b t A cap) (n:Nat) (hn:n≤t.b.length):TapeIn (w.setCell ⟨b,0,none⟩ (.slice A n n)) c b { t with b:=t.b.take n } A n∧Ext w (w.setCell ⟨b,0,none⟩ (.slice A n n)) c c qAY:=by
 have hb:=qAd h.own 0 (.slice A n n)
 have hl:(t.b.take n).length=n:=by rw [List.length_take];omega
 refine ⟨⟨by simp only [hl];simpa [qJr] using hb,h.col,?_⟩,(Ext.refl w c qAY).setCell (fun _=>by show qAY (c b)=true;rw [h.col];rfl) _⟩
 simp only [hl]
 rw [qM4]
 exact (qLq h.bytes hn).go (by simp [World.setCell]) fun k hk hO=>⟨zA _ ⟨b,0,none⟩ _ k (fun e=>by subst e;rw [h.col] at hO;cases hO),hO⟩
theorem qJF (h:TapeAt w c b t) (hE:Env w c p) (hb:t.b.length≤1048576) :
  Calls Tryz.prog 22 #[.pointer (some ⟨b,0,none⟩)] w (qMu w c b t.recover):=by
 have HON:=Hh (qQR h)
 have HRC:=Hh (show t.recover=((qAn (t.b.length+1) t.b).1,⟨t.b.take (qAn (t.b.length+1) t.b).2,false,none⟩) from rfl)
 have hle:=qJG t.b
 have HE:=Hh hE
 clear h hE
 generalize t.recover=res at HRC ⊢
 go_enter Tryz.func22,Tryz.ntmps22
 go_upto_region 4 with (go_at_call 50;refine HON.out.mono ?_;rintro ev w1 ⟨rfl,he1,A,cap,ht1⟩;have HE1:=Hh he1;have HT1:=Hh ht1;clear he1 ht1)
 have c0:=ce0 HT1.out.own
 simp only at c0
 have hcv:=qIb HT1.out.bytes
 simp only at hcv
 have HRD:=Hh (qPA t.b (by omega) w1 (HE.out.ext HE1.out rfl).vars)
 generalize qAn (t.b.length+1) t.b=rr at *
 have hbl:=qAa HT1.out.own
 have hnone:A=none→t.b.length=0∧cap=0:=fun hA=>by
  obtain ⟨b',off,hc,_,_⟩:=HT1.out.bytes
  have h1:=hc.le
  simp only at h1
  rcases Nat.eq_zero_or_pos cap with h0 | h0
  ·exact ⟨by omega,h0⟩
  ·have:=hc.addr h0
   rw [hA] at this
   cases this
 have hcap:t.b.length≤cap:=(HT1.out.bytes.len).2.1
 have HN:=Hh hnone
 clear hnone
 go_upto_region 5 with (go_at_call 51;refine HRD.out.mono ?_;rintro ev w2 ⟨A2,cap2,rfl,hr2,hb2⟩;have HR2:=Hh hr2;have HB2:=Hh hb2;clear hr2 hb2)
 have HT2:=Hh (HT1.out.ext (Ext.of_below HB2.out c S0) rfl rfl)
 clear c0 hcv
 have c0:=ce0 HT2.out.own
 have f0:=qAb HT2.out.own 0
 simp only at c0
 obtain ⟨h5,h6⟩:=HT2.out.clip rr.2 hle
 have H5:=Hh h5
 have H6:=Hh h6
 clear h5 h6
 have i1:(0:Int)≤(rr.2:Int):=by omega
 have i2:(rr.2:Int)≤(cap:Int):=by omega
 have HFIN:=Hh (show ∀ (e:Ending),e=.returned (.tuple #[.slice A2 rr.1.length cap2,.nilIface])→qMu w c b (rr.1,⟨t.b.take rr.2,false,none⟩) e (w2.setCell ⟨b,0,none⟩ (.slice A rr.2 rr.2)) from fun e he=>by
  subst he
  have hsz:=HB2.out.size
  have e1:Ext w1 w2 c (fun k=>if k<w1.heap.size then c k else .ro) S0:=(Ext.of_below HB2.out c S0).recolor fun k hk _=>zM1 hk
  have hin:=HT1.out.ext e1 rfl rfl
  obtain ⟨h7,h8⟩:=hin.clip rr.2 hle
  refine ⟨A2,cap2,_,rfl,(HE1.out.trans (e1.mono (fun _ _=>rfl))).trans h8,⟨A,rr.2,h7⟩,fun hn=>?_⟩
  rcases HR2.out.2 with ⟨_,h0⟩ | ⟨g,cp,cur,e2,hge,hg,_⟩
  ·exact absurd (zR.1 h0) hn
  ·injection e2 with e3 e4 e5
   subst e3 e5
   have hgl:=qAa hg
   refine ⟨g,0,rfl,by simpa [World.setCell] using hgl,zL1 (by omega),fun j x hx=>?_⟩
   have hj:=(zM.1 hx).1
   have hgb:g≠b:=by omega
   have hcell:w2.cell? ⟨g,j,none⟩=(rr.1.map encStr)[j]?:=HR2.out.cellAt j (by simp only at hj;omega)
   rw [zw,zD1 (a:=⟨g,j,none⟩) (zA w2 ⟨b,0,none⟩ _ g hgb),hcell,zN,hx]
   rfl)
 cases A with
 | none =>
  obtain ⟨h0,h1⟩:=HN.out rfl
  have h2:rr.2=0:=by omega
  obtain ⟨r1,r2⟩:=rr
  simp only at h2
  subst h1 h2
  clear HN h0
  simp only at *
  go_wp2
  go_ret2
  rw [HRC.out]
  exact HFIN.out _ rfl
 | some a =>
  clear HN
  go_wp2
  go_ret2
  rw [HRC.out]
  exact HFIN.out _ rfl
end
end Go.Proofs.YtceklhjomhjipaaGreatDoor
namespace Stl
def RunSto (i:Nat) (s:Sto):Prop:=RunOk i s ⟨[],false,none⟩
theorem qIq {n:Nat} (h:n≤512):RunSto 0 (Sto.new n):=qFR h
theorem RunOk.alone {i:Nat} {s:Sto} {t:Tape} (h:RunOk i s t):RunSto i s :=
 ⟨h.sto,h.disk,h.inos,h.next,h.ents,rfl,rfl,zx _⟩
theorem RunSto.step {i:Nat} {s s1:Sto} {line a:Bytes} (h:RunSto i s) (hi:i≤300) (hl:line.length≤250) (hc:s.change line=some (.ok (a,s1))):RunSto (i+1) s1:=by
 have h1:=qDv h hi hl
 have e:(qAh s ⟨[],false,none⟩ line).2.1=s1:=by
  unfold qAh
  rw [hc]
  simp only
  rw [qB7 hl rfl rfl (by decide),zM1 rfl]
 rw [e] at h1
 exact h1.alone
end Stl
namespace Go.Proofs.YtceklhjomhjipaaGreatDoor
open Go.RowKit Go.Sort Go.Shelf Stl
structure OpSt (w2 wr:World) (c2 cr:Nat→Col) (b tp0 n:Nat) (rs:List (List UInt8)) (j:Nat) (s:Sto):Prop where
 ext:Ext w2 wr c2 cr qDx
 sto:StoAt wr cr b s tp0
 done:qB4 (Sto.new n) (rs.take j)=some s
 run:RunSto j s
def qRe (p:Nat→Addr) (w:World) (c:Nat→Col) (tp:Nat) (s:Sto) (t:Stl.Tape) (e:Ending) (w':World):Prop :=
 ∃ (b:Nat) (c2:Nat→Col),e=.returned (.tuple #[.pointer (some ⟨b,0,none⟩),.nilIface])∧Ext w w' (kDo c) c2 qAY∧StAt w' c2 b tp p s t
theorem StoAt.retape {w:World} {c:Nat→Col} {b tp:Nat} (tp2:Nat) {s:Sto} (h:StoAt w c b s tp):StoAt (w.setCell ⟨b,3,none⟩ (.pointer (some ⟨tp2,0,none⟩))) c b s tp2∧Ext w (w.setCell ⟨b,3,none⟩ (.pointer (some ⟨tp2,0,none⟩))) c c (fun y=>decide (y=.sto)):=by
 obtain ⟨bd,A,cap,zs,R,rc,hx⟩:=h.open
 have hb:=qAd hx.own 3 (.pointer (some ⟨tp2,0,none⟩))
 have e:Ext w (w.setCell ⟨b,3,none⟩ (.pointer (some ⟨tp2,0,none⟩))) c c (fun y=>decide (y=.sto)):=(Ext.refl w c _).setCell (fun _=>by show decide (c b=.sto)=true;rw [hx.col];rfl) _
 exact ⟨StoX.shut ⟨hb,hx.col,hx.dirs.ext e rfl (fun x hx=>by cases x<;>first | rfl | (cases hx)),hx.packs.ext e rfl,hx.eq,fun x hxm=>⟨(hx.ro x hxm).1,(hx.ro x hxm).2.ext e rfl⟩,hx.roots.ext e rfl⟩,e⟩
theorem qOq {w w2:World} {c c2:Nat→Col} (h:Ext w w2 (kDo c) c2 (fun y=>qAY y||qDx y)):Ext w w2 (kDo c) c2 qAY :=
 ⟨h.os,h.tape,h.output,h.size,fun k hk hs=>h.keep k hk (by rw [hs,qHr];rfl)⟩
theorem qOg {w:World} {c:Nat→Col} {tp:Nat} {p:Nat→Addr} {t:Stl.Tape} (ht:TapeAt w c tp t) (hE:Env w c p) (hb:t.b.length≤1048576) (n:Nat) (h1:1≤n) (h2:n≤512) {rs:List (List UInt8)} (hrec:t.recover=(rs,⟨qCS rs,false,none⟩)) (hsh:∀ r∈rs,r.length≤250) (hmany:rs.length≤300) {s:Sto} (hall:qB4 (Sto.new n) rs=some s) :
  Calls Tryz.prog 11 #[.pointer (some ⟨tp,0,none⟩),.int .i64 n] w (qRe p w c tp s ⟨qCS rs,false,none⟩):=by
 have HNW:=Hh (qEr n h1 h2 w (kDo c))
 have HT0:=Hh (ht.ext (qNP w c) rfl rfl)
 have HEN0:=Hh (hE.ext (qNP w c) rfl)
 have HALL:=Hh hall
 have HSH:=Hh hsh
 have HRC:=Hh hrec
 clear ht hE hrec hsh hall
 go_enter Tryz.func11,Tryz.ntmps11
 go_upto_region 6 with (go_at_call 6;refine HNW.out.mono ?_;rintro ev w1 ⟨b,tp0,c1,rfl,hge1,he1,hs1,_⟩;have HE1:=Hh he1;have HS1:=Hh hs1;have HGE:=Hh hge1;clear he1 hs1 hge1)
 have HT1:=Hh (HT0.out.ext HE1.out rfl rfl)
 have HEN1:=Hh (HEN0.out.ext HE1.out rfl)
 have HRV:=Hh (qJF HT1.out HEN1.out hb)
 rw [HRC.out] at HRV
 go_upto_region 10 with (go_at_call 22;refine HRV.out.mono ?_;rintro ev w2 ⟨A2,cap2,c2,rfl,he2,ht2,hr2⟩;have HE2:=Hh he2;have HT2:=Hh ht2;have HR2:=Hh hr2;clear he2 ht2 hr2)
 have HS2:=Hh (HS1.out.ext HE2.out rfl (fun x hx=>by cases x<;>first | rfl | (cases hx)))
 have HEN2:=Hh (HEN1.out.ext HE2.out rfl)
 clear HNW HRV
 go_loopw [35] (fun a wr=>∃ (j:Nat) (cr:Nat→Col) (sj:Sto),a=.int .i64 j∧j≤rs.length∧Hid (OpSt w2 wr c2 cr b tp0 n rs j sj)) (fun a _=>rs.length-(intOf a).toNat)
 case atStart=>exact ⟨0,c2,_,rfl,zx _,Hh ⟨Ext.refl _ _ _,HS2.out,rfl,qIq h2⟩⟩
 case round =>
  obtain ⟨j,cr,sj,rfl,hj,HS⟩:=hrel
  by_cases hjl:j<rs.length
  ·have i1:(j:Int)<(rs.length:Int):=by omega
   have i2:(0:Int)≤(j:Int):=by omega
   obtain ⟨g,off,hA,hgl,q0⟩:=((HR2.out.ext HS.out.ext rfl).strs cap2).cellAt hjl
   subst hA
   obtain ⟨sj',a,s1,hd,hch,hd1⟩:=qJe rs HALL.out j hjl
   have hlen:=HSH.out _ (zO hjl)
   rw [HS.out.done] at hd
   injection hd with hd
   subst hd
   generalize rs[j]=line at *
   have HD1:=Hh hd1
   have HRN:=Hh (HS.out.run.step (by omega) hlen hch)
   obtain ⟨xbd,xA,xcap,xzs,xR,xrc,hx⟩:=HS.out.sto.open
   have HCC:=Hh (qC8 hx (qCL HS.out.run (by omega)) (HEN2.out.ext HS.out.ext rfl) line (by omega))
   rw [hch] at HCC
   clear hd1 hch hx
   go_wp2_with (go_at_call 18;refine HCC.out.mono ?_;rintro ev w3 ⟨a3,er3,is3,rfl,rfl,hch⟩;obtain ⟨⟨rfl,_⟩,c3,he3,hs3⟩:=qFT hch;have HE3:=Hh he3;have HS3:=Hh hs3;clear he3 hs3 hch)
   go_roundw
   case rel=>exact ⟨j+1,c3,s1,by go_num,hjl,Hh ⟨HS.out.ext.trans HE3.out,HS3.out,HD1.out,HRN.out⟩⟩
   case measure=>simp [intOf];omega
  ·have i1:¬ (j:Int)<(rs.length:Int):=by omega
   obtain rfl:j=rs.length:=by omega
   have hse:sj=s:=by
    have h3:=HS.out.done
    rw [zm,HALL.out] at h3
    injection h3 with h3
    exact h3.symm
   subst hse
   obtain ⟨xbd,xA,xcap,xzs,xR,xrc,hx⟩:=HS.out.sto.open
   have q3:=ce3 hx.own
   have f3:=qAb hx.own 3
   clear hx
   obtain ⟨h5,h6⟩:=HS.out.sto.retape tp
   have H5:=Hh h5
   have H6:=Hh h6
   have HTF:=Hh ((HT2.out.ext HS.out.ext rfl rfl).ext h6 rfl rfl)
   have HEF:=Hh ((HEN2.out.ext HS.out.ext rfl).ext h6 rfl)
   clear h5 h6
   go_wp2
   go_ret2
   exact ⟨b,_,rfl,qOq ((((HE1.out.mono (fun _ _=>rfl)).trans (HE2.out.mono (fun x hx=>by cases x<;>first | rfl | (cases hx)))).trans (HS.out.ext.mono (fun x hx=>by cases x<;>first | rfl | (cases hx)))).trans (H6.out.mono (fun x hx=>by cases x<;>first | rfl | (cases hx)))),H5.out,HTF.out,HEF.out⟩
def IntsAt (w:World) (A:Option Addr) (l:List Nat):Prop:=l≠[]→∃ b off,A=some ⟨b,off,none⟩∧b<w.heap.size∧∀ (j:Nat) x,l[j]?=some x→w.cell? ⟨b,off+j,none⟩=some (qH4 x)
theorem IntsAt.later {w w2:World} {A:Option Addr} {l:List Nat} (h:IntsAt w A l) (hb:Below w.heap.size w w2):IntsAt w2 A l:=fun hn=>by
 obtain ⟨b,off,h1,h2,h3⟩:=h hn
 exact ⟨b,off,h1,zu h2 hb.size,fun j x hx=>(hb.cell (p:=⟨b,off+j,none⟩) h2).trans (h3 j x hx)⟩
theorem IntsAt.at {w:World} {A:Option Addr} {l:List Nat} (h:IntsAt w A l) {j:Nat} (hj:j<l.length):∃ b off,A=some ⟨b,off,none⟩∧b<w.heap.size∧w.cell? ⟨b,off+j,none⟩=some (.int .i64 (l[j]:Nat)):=by
 obtain ⟨b,off,h1,h2,h3⟩:=h (fun e=>by rw [e] at hj;simp at hj)
 exact ⟨b,off,h1,h2,h3 j _ (zL hj)⟩
theorem qK0 {w:World} {base cap:Nat} {A:Option Addr} {l:List Nat} (h:w.ownsRow base 3 1 (.slice A l.length cap) l.length (l.map qH4)):IntsAt w A l:=fun hn=>by
 rcases h.2 with ⟨_,h0⟩ | ⟨g,cp,cur,e,_,hg,_⟩
 ·exact absurd (zR.1 h0) hn
 ·injection e with e1 e2 e3
  subst e1
  refine ⟨g,0,rfl,qAa hg,fun j x hx=>?_⟩
  have hj:=(zM.1 hx).1
  have hc:w.cell? ⟨g,j,none⟩=(l.map qH4)[j]?:=h.cellAt j (by rw [Nat.mul_one];exact hj)
  rw [zw,hc,zN,hx]
  rfl
theorem qLg (A A2:Option Addr) (c c2:Nat) (l:List Nat) (hl:l.length≤1000000) (w:World) (hs:IntsAt w A l) (hs2:IntsAt w A2 l) :
  Calls Tryz.prog 55 #[.slice A l.length c,.slice A2 l.length c2] w fun e w'=>e=.returned (.bool true)∧Below w.heap.size w w':=by
 have HS:=Hh hs
 have HS2:=Hh hs2
 clear hs hs2
 go_enter Tryz.func55,Tryz.ntmps55
 go_wp2_with fail
 go_loopw [13] (fun a wr=>Below w.heap.size w wr∧∃ k:Nat,k≤l.length∧a=.int .i64 k) (fun a _=>l.length-(intOf a).toNat)
 case atStart=>exact ⟨zB _ _,0,zx _,rfl⟩
 case round =>
  obtain ⟨hbl,k,hk,rfl⟩:=hrel
  have HB:=Hh hbl
  by_cases hkl:k<l.length
  ·obtain ⟨b,off,rfl,hb,hc⟩:=(HS.out.later hbl).at hkl
   obtain ⟨b2,off2,rfl,hb2,hc2⟩:=(HS2.out.later hbl).at hkl
   clear hbl
   have i1:(k:Int)<(l.length:Int):=by omega
   have i2:(0:Int)≤(k:Int):=by omega
   generalize l[k]=x at *
   go_wp2_with fail
   go_quiet (fail)
   go_wp2
   go_roundw
   case rel=>exact ⟨Below.drewN HB.out _,k+1,hkl,by go_num⟩
   case measure=>simp [intOf];omega
  ·have i1:¬ (k:Int)<(l.length:Int):=by omega
   go_wp2
   go_ret
   exact ⟨rfl,HB.out⟩
theorem qGg (A A2:Option Addr) (c c2:Nat) (l:List (List UInt8)) (hl:l.length≤1000000) (w:World) (hs:Strs w (.slice A l.length c) l) (hs2:Strs w (.slice A2 l.length c2) l) :
  Calls Tryz.prog 23 #[.slice A l.length c,.slice A2 l.length c2] w fun e w'=>e=.returned (.bool true)∧Below w.heap.size w w':=by
 have HS:=Hh hs
 have HS2:=Hh hs2
 clear hs hs2
 go_enter Tryz.func23,Tryz.ntmps23
 go_wp2_with fail
 go_loopw [13] (fun a wr=>Below w.heap.size w wr∧∃ k:Nat,k≤l.length∧a=.int .i64 k) (fun a _=>l.length-(intOf a).toNat)
 case atStart=>exact ⟨zB _ _,0,zx _,rfl⟩
 case round =>
  obtain ⟨hbl,k,hk,rfl⟩:=hrel
  have HB:=Hh hbl
  by_cases hkl:k<l.length
  ·obtain ⟨b,off,rfl,hb,hc⟩:=(HS.out.later hbl).cellAt hkl
   obtain ⟨b2,off2,rfl,hb2,hc2⟩:=(HS2.out.later hbl).cellAt hkl
   clear hbl
   have i1:(k:Int)<(l.length:Int):=by omega
   have i2:(0:Int)≤(k:Int):=by omega
   generalize l[k]=x at *
   go_wp2_with fail
   go_quiet (fail)
   go_wp2
   go_roundw
   case rel=>exact ⟨Below.drewN HB.out _,k+1,hkl,by go_num⟩
   case measure=>simp [intOf];omega
  ·have i1:¬ (k:Int)<(l.length:Int):=by omega
   go_wp2
   go_ret
   exact ⟨rfl,HB.out⟩
structure SX where
 x:Ino
 a:Option Addr
 cap:Nat
def qLw (y:SX):List Value:=[.int .i64 y.x.bytes,.int .i64 y.x.links,.bool y.x.exec,.slice y.a y.x.blocks.length y.cap,.int .u32 y.x.sum.toNat]
def SX.v (y:SX):Value:=.agg #[.int .i64 y.x.bytes,.int .i64 y.x.links,.bool y.x.exec,.slice y.a y.x.blocks.length y.cap,.int .u32 y.x.sum.toNat]
theorem qE7:∀ ys:List SX,(ys.flatMap qLw).length=ys.length*5
 | []=>rfl
 | y::r=>by
  rw [List.flatMap_cons,zP,qE7 r,zQ]
  show 5+_=_
  omega
theorem qDo:∀ (ys:List SX) (j:Nat) (hj:j<ys.length) (i:Nat),i<5→(ys.flatMap qLw)[j*5+i]?=(qLw ys[j])[i]?
 | [],j,hj,_,_=>by simp at hj
 | y::r,0,_,i,hi=>by
  rw [List.flatMap_cons,List.getElem?_append_left (by show _<5;omega),Nat.zero_mul,zw]
  rfl
 | y::r,j+1,hj,i,hi=>by
  rw [List.flatMap_cons,List.getElem?_append_right (by show 5≤_;omega)]
  show (r.flatMap qLw)[(j+1)*5+i-5]?=_
  rw [show (j+1)*5+i-5=j*5+i by omega]
  exact qDo r j (by simpa using hj) i hi
structure StatsAt (w:World) (A:Option Addr) (ys:List SX):Prop where
 row:ys≠[]→∃ b,A=some ⟨b,0,none⟩∧b<w.heap.size∧∀ (j:Nat) u,(ys.flatMap qLw)[j]?=some u→w.cell? ⟨b,j,none⟩=some u
 ints:∀ y∈ys,IntsAt w y.a y.x.blocks
theorem StatsAt.later {w w2:World} {A:Option Addr} {ys:List SX} (h:StatsAt w A ys) (hb:Below w.heap.size w w2):StatsAt w2 A ys :=
 ⟨fun hn=>by
  obtain ⟨b,h1,h2,h3⟩:=h.row hn
  exact ⟨b,h1,zu h2 hb.size,fun j u hu=>(hb.cell (p:=⟨b,j,none⟩) h2).trans (h3 j u hu)⟩,fun y hy=>(h.ints y hy).later hb⟩
theorem StatsAt.at {w:World} {A:Option Addr} {ys:List SX} (h:StatsAt w A ys) {j:Nat} (hj:j<ys.length):∃ b,A=some ⟨b,0,none⟩∧b<w.heap.size ∧
  w.cell? ⟨b,j*5,none⟩=some (.int .i64 ys[j].x.bytes)∧w.cell? ⟨b,j*5+1,none⟩=some (.int .i64 ys[j].x.links)∧w.cell? ⟨b,j*5+2,none⟩=some (.bool ys[j].x.exec)∧w.cell? ⟨b,j*5+3,none⟩=some (.slice ys[j].a ys[j].x.blocks.length ys[j].cap)∧w.cell? ⟨b,j*5+4,none⟩=some (.int .u32 ys[j].x.sum.toNat):=by
 obtain ⟨b,h1,h2,h3⟩:=h.row (fun e=>by rw [e] at hj;simp at hj)
 refine ⟨b,h1,h2,?_,?_,?_,?_,?_⟩
 ·have:=h3 (j*5+0) _ (qDo ys j hj 0 (by omega));simpa using this
 ·exact h3 (j*5+1) _ (qDo ys j hj 1 (by omega))
 ·exact h3 (j*5+2) _ (qDo ys j hj 2 (by omega))
 ·exact h3 (j*5+3) _ (qDo ys j hj 3 (by omega))
 ·exact h3 (j*5+4) _ (qDo ys j hj 4 (by omega))
theorem qIE (x:Ino) (A A2:Option Addr) (cap cap2:Nat) (hl:x.blocks.length≤1000000) (w:World) (h1:IntsAt w A x.blocks) (h2:IntsAt w A2 x.blocks) :
  Calls Tryz.prog 26 #[(SX.mk x A cap).v,(SX.mk x A2 cap2).v] w fun e w'=>e=.returned (.bool true)∧Below w.heap.size w w':=by
 have HI:=Hh (fun (W:World) (hb:Below w.heap.size w W)=>qLg A A2 cap cap2 x.blocks hl W (h1.later hb) (h2.later hb))
 simp only [SX.v]
 generalize x.blocks.length=n at *
 generalize x.bytes=xb at *
 generalize x.links=xl at *
 generalize x.exec=xe at *
 generalize x.sum.toNat=xm at *
 have hb1:Below w.heap.size w ((w.alloc (.cells #[.int .i64 xb,.int .i64 xl,.bool xe,.slice A n cap,.int .u32 xm] 71)).alloc (.cells #[.int .i64 xb,.int .i64 xl,.bool xe,.slice A2 n cap2,.int .u32 xm] 71)):=((zB _ w).alloc (zq _) _).alloc (by simp) _
 have HX1:=Hh (qAj (w.alloc (.cells #[.int .i64 xb,.int .i64 xl,.bool xe,.slice A n cap,.int .u32 xm] 71)) (.cells #[.int .i64 xb,.int .i64 xl,.bool xe,.slice A2 n cap2,.int .u32 xm] 71) (zK1 w (.cells #[.int .i64 xb,.int .i64 xl,.bool xe,.slice A n cap,.int .u32 xm] 71)))
 have hx2:=zK1 (w.alloc (.cells #[.int .i64 xb,.int .i64 xl,.bool xe,.slice A n cap,.int .u32 xm] 71)) (.cells #[.int .i64 xb,.int .i64 xl,.bool xe,.slice A2 n cap2,.int .u32 xm] 71)
 rw [show (w.alloc (.cells #[.int .i64 xb,.int .i64 xl,.bool xe,.slice A n cap,.int .u32 xm] 71)).heap.size=w.heap.size+1 by simp] at hx2
 have HX2:=Hh hx2
 have HEQ:=Hh (HI.out _ hb1)
 have HB1:=Hh hb1
 clear h1 h2 hx2 hb1 HI hl
 go_enter Tryz.func26,Tryz.ntmps26
 go_upto_region 1 with fail
 generalize (w.alloc (.cells #[.int .i64 xb,.int .i64 xl,.bool xe,.slice A n cap,.int .u32 xm] 71)).alloc (.cells #[.int .i64 xb,.int .i64 xl,.bool xe,.slice A2 n cap2,.int .u32 xm] 71)=w4 at *
 have y0:=ce0 HX1.out
 have y1:=ce1 HX1.out
 have y2:=ce2 HX1.out
 have y3:=ce3 HX1.out
 have y4:=ce4 HX1.out
 have z0:=ce0 HX2.out
 have z1:=ce1 HX2.out
 have z2:=ce2 HX2.out
 have z3:=ce3 HX2.out
 have z4:=ce4 HX2.out
 cases xe
 ·go_wp2_with (go_at_call 55;refine HEQ.out.mono ?_;rintro ev w2 ⟨rfl,hb2⟩;have HB2:=Hh (HB1.out.trans (hb2.mono HB1.out.size));clear hb2)
  go_ret
  exact ⟨rfl,HB2.out⟩
 ·go_wp2_with (go_at_call 55;refine HEQ.out.mono ?_;rintro ev w2 ⟨rfl,hb2⟩;have HB2:=Hh (HB1.out.trans (hb2.mono HB1.out.size));clear hb2)
  go_ret
  exact ⟨rfl,HB2.out⟩
theorem qJD (A A2:Option Addr) (c c2:Nat) (ys zs:List SX) (he:ys.map (·.x)=zs.map (·.x)) (hl:ys.length≤1000000) (hbl:∀ y∈ys,y.x.blocks.length≤1000000) (w:World) (h1:StatsAt w A ys) (h2:StatsAt w A2 zs) :
  Calls Tryz.prog 24 #[.slice A ys.length c,.slice A2 ys.length c2,.func (.func 26) #[] #[]] w fun e w'=>e=.returned (.bool true)∧Below w.heap.size w w':=by
 have HK:=Hh h1
 have HK':=Hh h2
 have hzl:zs.length=ys.length:=by have:=congrArg List.length he;simpa using this.symm
 have HL:=Hh hzl
 have HEQ:=Hh he
 have HBL:=Hh hbl
 clear h1 h2 he hzl hbl
 go_enter Tryz.func24,Tryz.ntmps24
 go_upto_region 4 with fail
 go_loopw [17] (fun a wr=>∃ j:Nat,j≤ys.length∧a=.int .i64 j∧Hid (Below w.heap.size w wr)) (fun a _=>ys.length-(intOf a).toNat)
 case atStart=>exact ⟨0,zx _,rfl,Hh (zB _ _)⟩
 case round =>
  obtain ⟨j,hj,rfl,HB⟩:=hrel
  by_cases hjl:j<ys.length
  ·have hjl':j<zs.length:=by have:=HL.out;omega
   have i1:(j:Int)<(ys.length:Int):=by omega
   have i2:(0:Int)≤(j:Int):=by omega
   obtain ⟨b,rfl,hlt,q0,q1,q2,q3,q4⟩:=(HK.out.later HB.out).at hjl
   obtain ⟨b',rfl,hlt',r0,r1,r2,r3,r4⟩:=(HK'.out.later HB.out).at hjl'
   have hi1:=(HK.out.later HB.out).ints _ (zO hjl)
   have hi2:=(HK'.out.later HB.out).ints _ (zO hjl')
   have hbj:=HBL.out _ (zO hjl)
   have hx:zs[j].x=ys[j].x:=by
    have h:=congrArg (fun l:List Ino=>l[j]?) HEQ.out
    simp only [zN,zL hjl,zL hjl',zA1,zB1] at h
    exact h.symm
   rw [hx] at r0 r1 r2 r3 r4 hi2
   clear hx
   generalize ys[j]=y at *
   generalize zs[j]=z at *
   obtain ⟨x,ya,yc⟩:=y
   obtain ⟨x',za,zc⟩:=z
   simp only at *
   have HSS:=Hh (fun (W:World) (hb:Below wr.heap.size wr W)=>qIE x ya za yc zc hbj W (hi1.later hb) (hi2.later hb))
   simp only [SX.v] at HSS
   clear hi1 hi2 hbj
   generalize x.blocks.length=n at *
   generalize x.bytes=xb at *
   generalize x.links=xl at *
   generalize x.exec=xe at *
   generalize x.sum.toNat=xm at *
   have hb4:Below wr.heap.size wr ((wr.alloc (.cells #[.int .i64 xb,.int .i64 xl,.bool xe,.slice ya n yc,.int .u32 xm] 71)).alloc (.cells #[.int .i64 xb,.int .i64 xl,.bool xe,.slice za n zc,.int .u32 xm] 71)):=((zB _ wr).alloc (zq _) _).alloc (by simp) _
   have HX1:=Hh (qAj (wr.alloc (.cells #[.int .i64 xb,.int .i64 xl,.bool xe,.slice ya n yc,.int .u32 xm] 71)) (.cells #[.int .i64 xb,.int .i64 xl,.bool xe,.slice za n zc,.int .u32 xm] 71) (zK1 wr (.cells #[.int .i64 xb,.int .i64 xl,.bool xe,.slice ya n yc,.int .u32 xm] 71)))
   have hx2:=zK1 (wr.alloc (.cells #[.int .i64 xb,.int .i64 xl,.bool xe,.slice ya n yc,.int .u32 xm] 71)) (.cells #[.int .i64 xb,.int .i64 xl,.bool xe,.slice za n zc,.int .u32 xm] 71)
   rw [show (wr.alloc (.cells #[.int .i64 xb,.int .i64 xl,.bool xe,.slice ya n yc,.int .u32 xm] 71)).heap.size=wr.heap.size+1 by simp] at hx2
   have HX2:=Hh hx2
   have HSM:=Hh (HSS.out _ hb4)
   have HB4:=Hh (HB.out.trans (hb4.mono HB.out.size))
   clear hx2 hb4 HSS
   go_upto_region 6 with fail
   have hup:∀ (i:Nat) v,wr.cell? ⟨b',i,none⟩=some v→(wr.alloc (.cells #[.int .i64 xb,.int .i64 xl,.bool xe,.slice ya n yc,.int .u32 xm] 71)).cell? ⟨b',i,none⟩=some v:=fun i v hv=>(zD1 (a:=⟨b',i,none⟩) (Below.heap_alloc _ _ b' hlt')).trans hv
   replace r0:=hup _ _ r0
   replace r1:=hup _ _ r1
   replace r2:=hup _ _ r2
   replace r3:=hup _ _ r3
   replace r4:=hup _ _ r4
   clear hup
   go_upto_region 7 with fail
   clear q0 q1 q2 q3 q4 r0 r1 r2 r3 r4
   generalize (wr.alloc (.cells #[.int .i64 xb,.int .i64 xl,.bool xe,.slice ya n yc,.int .u32 xm] 71)).alloc (.cells #[.int .i64 xb,.int .i64 xl,.bool xe,.slice za n zc,.int .u32 xm] 71)=w4 at *
   have y0:=ce0 HX1.out
   have y1:=ce1 HX1.out
   have y2:=ce2 HX1.out
   have y3:=ce3 HX1.out
   have y4:=ce4 HX1.out
   have z0:=ce0 HX2.out
   have z1:=ce1 HX2.out
   have z2:=ce2 HX2.out
   have z3:=ce3 HX2.out
   have z4:=ce4 HX2.out
   go_wp2_with (go_at_call 26;refine HSM.out.mono ?_;rintro ev w5 ⟨rfl,hb5⟩;have HB5:=Hh (HB4.out.trans (hb5.mono HB4.out.size));clear hb5)
   clear y0 y1 y2 y3 y4 z0 z1 z2 z3 z4
   go_roundw
   case rel=>exact ⟨j+1,hjl,by go_num,HB5⟩
   case measure=>simp [intOf];omega
  ·have i1:¬ (j:Int)<(ys.length:Int):=by omega
   go_wp2
   go_ret
   exact ⟨rfl,HB.out⟩
def qJ5 (T:Tab) (n:Nat):Ino:=(T.at_ n).getD ⟨0,0,false,[],0⟩
def qDk (T:Tab):List Ino:=T.all.map (qJ5 T)
theorem all_some {T:Tab} {n:Nat} (h:n∈T.all):T.at_ n=some (qJ5 T n):=by
 unfold Tab.all at h
 rw [zZ] at h
 unfold qJ5
 cases hx:T.at_ n with
 | none=>rw [hx] at h;cases h.2
 | some x=>rfl
structure StaSt (w wr:World) (T:Tab) (j:Nat) (v:Value) (ys:List SX):Prop where
 below:Below w.heap.size w wr
 row:wr.ownsRow w.heap.size 71 5 v j (ys.flatMap qLw)
 eq:ys.map (·.x)=(T.all.take j).map (qJ5 T)
 ints:∀ y∈ys,wr.ownsRow w.heap.size 3 1 (.slice y.a y.x.blocks.length y.cap) y.x.blocks.length (y.x.blocks.map qH4)
def qMl (w:World) (T:Tab) (e:Ending) (w':World):Prop :=
 ∃ (A:Option Addr) (cap:Nat) (ys:List SX),e=.returned (.slice A ys.length cap)∧StatsAt w' A ys∧ys.map (·.x)=qDk T∧Below w.heap.size w w'
theorem qPp:qBZ 71 (.agg #[.int .i64 0,.int .i64 0,.bool false,.slice none 0 0,.int .u32 0]) 5 56:=qBW (by kernel_rfl) rfl (by decide)
theorem StaSt.shut {w wr:World} {T:Tab} {A:Option Addr} {cap:Nat} {ys:List SX} (h:StaSt w wr T ys.length (.slice A ys.length cap) ys):StatsAt wr A ys :=
 ⟨fun hn=>by
  rcases h.row.2 with ⟨e,h0⟩ | ⟨g,cp,cur,e,_,hg,_⟩
  ·exact absurd (zR.1 h0) hn
  ·injection e with e1 e2 e3
   subst e1 e3
   refine ⟨g,rfl,qAa hg,fun j u hu=>?_⟩
   have hj:=(zM.1 hu).1
   rw [qE7] at hj
   rw [h.row.cellAt j hj,hu],
  fun y hy=>qK0 (h.ints y hy)⟩
end Go.Proofs.YtceklhjomhjipaaGreatDoor
