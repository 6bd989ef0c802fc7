/- Lemmas. -/
import Derived.DeepKeys4
import Derived.Maps.Own
import Derived.Test.YtbmkaekimccdgaaGreatDoorBm24
set_option maxHeartbeats 16000000
set_option maxRecDepth 1000000
set_option linter.all false
namespace Go.Proofs.YtbmkaekimccdgaaGreatDoor
open Go.RowKit Go.Maps Go.Sort Go.Shelf Stl
theorem qBN (l:List Ent)(k j:Nat):qN (l.filter fun x=>x.k != k) j=if j=k then none else qN l j:=by
 unfold qN;rw[List.find?_filter];by_cases h:j=k
 ·subst h;rw[zM1 rfl,List.find?_eq_none];intro x _;simp
 ·rw[zL1 h];congr 1
  funext x
  by_cases hx:x.k=j
  ·simp[hx,h]
  ·simp[hx]
structure DirsLess (w:World)(c:Nat→Col)(b:Nat)(d:Stl.Dirs)(bt bm:Nat)(nd:Nat→List Value)(fm:Nat→Nat)(k:Nat):Prop where
 own:w.heap[b]?=some (.cells #[.pointer (some ⟨bt,0,none⟩),.map (some bm),.int .i64 d.next] 88 (0,0))
 col:c b=.dirs
 mcol:c bm=.dirsMap
 map:gS w bm d.l.length (fun j=>if j=k then none else yC d.l nd fm j)
 node:∀ j e,qN d.l j=some e→j≠k→RoNode w c e.n (nd j)
 fcol:∀ j e,qN d.l j=some e→j≠k→c (fm j)=.files j
 files:∀ j e,qN d.l j=some e→j≠k→vM w (fm j) e.f.length (fileAt e.f)
section
variable {w w2:World}{c c2:Nat→Col}{S:Col→Bool}{b:Nat}{d:Stl.Dirs}{bt bm:Nat}{nd:Nat→List Value}{fm:Nat→Nat}{k:Nat}
theorem DirsLess.ext (h:DirsLess w c b d bt bm nd fm k)(e:Ext w w2 c c2 S)(h0:S .ro=false)(h1:S .dirs=false)(h2:S .dirsMap=false)(h3:∀ j,j≠k→S (.files j)=false):DirsLess w2 c2 b d bt bm nd fm k :=
 ⟨(e.kept h.own h.col h1).1,(e.kept h.own h.col h1).2,e.col h.map.lt h.mcol h2,h.map.ext e h.mcol h2,
  fun j x hx hj=>(h.node j x hx hj).ext e h0,fun j x hx hj=>e.col (h.files j x hx hj).lt (h.fcol j x hx hj) (h3 j hj),fun j x hx hj=>(h.files j x hx hj).ext e (h.fcol j x hx hj) (h3 j hj)⟩
theorem DirsIn.less (h:DirsIn w c b d bt bm nd fm)(k:Nat)(hm:gS w2 bm d.l.length (fun j=>if j=k then none else yC d.l nd fm j))(e:Ext w w2 c c (S1 .dirsMap)):DirsLess w2 c b d bt bm nd fm k :=
 ⟨(e.kept h.own h.col rfl).1,h.col,h.mcol,hm,fun j x hx _=>(h.node j x hx).ext e rfl,fun j x hx _=>h.fcol j x hx,fun j x hx _=>(h.files j x hx).ext e (h.fcol j x hx) (yU (by intro e;cases e))⟩
theorem DirsLess.shut (h:DirsLess w c b d bt bm nd fm k){T:Tab}(ht:TabAt w c bt T):DirsAt w c b { d with t:=T,l:=d.l.filter fun x=>x.k != k }:=by
 have he:∀ j x,qN (d.l.filter fun x=>x.k != k) j=some x→qN d.l j=some x∧j≠k:=by
  intro j x hx;rw[qBN] at hx;by_cases hj:j=k
  ·rw[zM1 hj] at hx;cases hx
  ·rw[zL1 hj] at hx;exact⟨hx,hj⟩
 refine⟨bt,bm,nd,fm,h.own,h.col,ht,h.mcol,?_,fun j x hx=>h.node j x (he j x hx).1 (he j x hx).2,fun j x hx=>h.fcol j x (he j x hx).1 (he j x hx).2,fun j x hx=>h.files j x (he j x hx).1 (he j x hx).2⟩;have hc:∀ j,yC (d.l.filter fun x=>x.k != k) nd fm j=if j=k then none else yC d.l nd fm j:=by
  intro j;unfold yC;rw[qBN];by_cases hj:j=k<;>simp[hj]
 have:=(h.map.congr hc).tight okN.keyed ((d.l.filter fun x=>x.k != k).map (·.k)) (fun j hj=>by
  unfold yC at hj
  cases hx:qN (d.l.filter fun x=>x.k != k) j with
  | none=>rw[hx] at hj;cases hj
  | some x =>
   have h1:=zf hx
   have h2:=List.find?_some hx
   exact zb.2 ⟨x,h1,by simpa using h2⟩)
 simpa using this
end
end Go.Proofs.YtbmkaekimccdgaaGreatDoor
namespace Go.Proofs.YtbmkaekimccdgaaGreatDoor
open Go.RowKit Go.Sort Go.Shelf Stl
theorem qCJ {d:Stl.Dirs}(hd:vC d){k:Nat}{e:Ent}(he:qN d.l k=some e):∀ q∈e.f,q.1.length≤1000000:=fun q hq=>by
 have hm:=zf he;have h1:q.1∈qR e.n:=by rw[← hd.files e hm];exact zb.2 ⟨q,hq,rfl⟩
 unfold qR at h1;obtain⟨x,hx,h2⟩:=zb.1 h1;have hx2:=(zZ.1 hx).1;have hx3:x∈Stl.flat e.n [] 0:=by
  unfold items at hx2;split at hx2
  ·exact hx2
  ·cases hx2
 have:=((items_well (hd.well e hm)).2 x hx3).2;rw[← h2];unfold told;split
 ·simp
 ·omega
theorem qEV {P:List UInt8→Bool}{x:List UInt8}{n:Nat}:∀ {l:List (List UInt8×Nat)},(l.map (·.1)).Nodup→(x,n)∈l→P x=true→(l.filter fun q=>P q.1).Perm ((x,n)::l.filter fun q=>P q.1&&!decide (q.1=x))
 | [],_,h,_=>by cases h
 | y::r,hn,h,hp=>by
  obtain⟨h1,h2⟩:=List.nodup_cons.1 hn;by_cases hy:y.1=x
  ·have hy2:y=(x,n):=by
    rcases zY.1 h with e | e
    ·exact e.symm
    ·exact absurd (zb.2 ⟨_,e,hy.symm⟩) h1
   subst hy2;have hr:(r.filter fun q=>P q.1&&!decide (q.1=x))=r.filter fun q=>P q.1:=by
    refine List.filter_congr fun q hq=>?_
    have:q.1≠x:=fun e=>h1 (zb.2 ⟨q,hq,e⟩)
    simp[this]
   rw[zK (by simpa using hp),zJ (by simp),hr]
  ·have hm:(x,n)∈r:=by
    rcases zY.1 h with e | e
    ·exact absurd (by rw[← e]) hy
    ·exact e
   have ih:=qEV h2 hm hp
   cases hq:P y.1 with
   | true =>
    rw[zK (by simpa using hq),zK (by simp[hq,hy])];exact(ih.cons y).trans (List.Perm.swap _ _ _)
   | false =>
    rw[zJ (by simp[hq]),zJ (by simp[hq])];exact ih
def mN:Col→Bool:=fun y=>pW y||decide (y=.free)
structure DrSt (w4 wr:World)(c4 cr:Nat→Col)(b bt bm:Nat)(d:Stl.Dirs)(nd:Nat→List Value)(fm:Nat→Nat)(k:Nat)(e:Ent)(r:Nat)(left:List UInt8→Bool)(cnt:Nat)(v:List (List UInt8×Nat)):Prop where
 ext:Ext w4 wr c4 cr (fun y=>oC y||decide (y=.free))
 less:DirsLess wr cr b d bt bm nd fm k
 tab:TabAt wr cr bt (qK d.t v)
 range:RangeAt Tryz.prog 9 oB wr (fm k) r e.f.length (fileAt e.f) left cnt
 perm:(v++e.f.filter fun q=>left q.1).Perm e.f
 rcol:cr r=.free
 fcol:cr (fm k)=.files k
section
variable {w:World}{c:Nat→Col}{b:Nat}{d:Stl.Dirs}
theorem nO {f:List (List UInt8×Nat)}{x:List UInt8}{n:Nat}(h:jV f x=some n):(x,n)∈f:=by
 unfold jV at h
 cases hf:f.find? fun p=>p.1==x with
 | none=>rw[hf] at h;cases h
 | some q =>
  rw[hf] at h;simp only[zA1,zB1] at h;have h1:=zf hf;have h2:=List.find?_some hf;have h3:q.1=x:=by simpa using h2
  obtain⟨a,m⟩:=q;simp only at h h3;subst h h3;exact h1
theorem qDP {f:List (List UInt8×Nat)}{x:List UInt8}(h:(fileAt f x).isSome=true):∃ n,jV f x=some n:=by
 unfold fileAt at h;rw[Option.isSome_map] at h;exact zy.1 h
theorem qFl {d:Stl.Dirs}(hd:vC d){k:Nat}{e:Ent}(he:qN d.l k=some e):(e.f.map (·.1)).Nodup:=by
 rw[hd.files e (zf he)];exact xI _
theorem qOd (h:DirsAt w c b d)(hd:DirsGood d)(k:Nat)(hk:k≤1000000){e:Ent}(he:qN d.l k=some e) :
  Calls Tryz.prog 115 #[.pointer (some ⟨b,0,none⟩),.int .i64 k] w fun ev w'=>ev=.returned .nilIface∧∃ c2,Ext w w' c c2 mN∧DirsAt w' c2 b { d with t:=qK d.t e.f,l:=d.l.filter fun x=>x.k != k }:=by
 obtain⟨bt,bm,nd,fm,h⟩:=h;have hlk:=h.lookOk hk he;obtain⟨k',d',e',ks,A,cap,hn,hnd,hnp⟩:=h.ent he;rw[hnd] at hlk;simp only[zE,zh] at hlk;have c1:=ce1 h.own;have hb1:Below w.heap.size w (w.alloc (.cells #[.string ⟨k'.toArray⟩,.string ⟨d'.toArray⟩,.bool e',.slice A ks.length cap,.map (some (fm k))] 203)):=(zB _ w).alloc (zo _) _;have HB1:=Hh hb1;have HEX:=Hh (zK1 w (.cells #[.string ⟨k'.toArray⟩,.string ⟨d'.toArray⟩,.bool e',.slice A ks.length cap,.map (some (fm k))] 203));have H1:=Hh (h.below hb1);have HD:=Hh hd;have HE:=Hh he;have HM:=Hh (zf he);have hbm:=h.map.lt;clear h hnp hn hnd hb1 hd he;go_enter Tryz.func115,Tryz.ntmps115;go_upto_region 4 with fail;clear hlk c1;generalize w.alloc (.cells #[.string ⟨k'.toArray⟩,.string ⟨d'.toArray⟩,.bool e',.slice A ks.length cap,.map (some (fm k))] 203)=w1 at *;have c1:=ce1 H1.o.own;have HMP:=Hh H1.o.map;go_upto_region 5 with (at_delete;refine qBw rfl _ _ 86 203 rfl okN Tryz.underlying86 rfl HMP.o k (by omega) rfl ?_;intro W2 hmap hturn);have he2:=Ext.turned hturn (c:=c) H1.o.mcol;have HE2:=Hh he2;have HLS:=Hh (H1.o.less k hmap he2);have HFM:=Hh ((H1.o.files k e HE.o).ext he2 (H1.o.fcol k e HE.o) (yU (by intro e;cases e)));have HTB:=Hh (H1.o.tab.ext he2 rfl (fun x hx=>yU (by intro e;subst e;cases hx)));have q4:W2.cell? ⟨w.heap.size,4,none⟩=some (.map (some (fm k))):=by
  have hb:=hturn.grown.block w.heap.size (qA HEX.o) (fun e=>by injection e with e;omega);exact zJ1 W2 _ 4 _ _ _ (hb.trans HEX.o)
 clear hturn hmap he2 c1;go_wp2_with (at_range;refine qAc rfl _ 201 3 rfl okS Tryz.underlying201 rfl HFM.o ?_;intro w4 cnt hrg hgr hsz);have HRG:=Hh hrg;have he4:=((Ext.refl W2 c S0).grown hgr (fun k hk=>by cases hk)).recolor (c3:=jC c W2.heap.size .free) (fun k hk _=>qJ hk (zo _));have HE4:=Hh he4;have hfl:fm k<W2.heap.size:=HFM.o.lt;have hr2:fm k<w4.heap.size:=by omega
 have HP0:=Hh (show ([]++e.f.filter fun q:List UInt8×Nat=>(fileAt e.f q.1).isSome).Perm e.f by
  rw[zh,List.filter_eq_self.2]
  intro q hq
  unfold fileAt
  rw[Option.isSome_map]
  unfold jV
  rw[Option.isSome_map,List.find?_isSome]
  exact⟨q,hq,by simp⟩)
 have H0:=Hh (show DrSt w4 w4 (jC c W2.heap.size .free) (jC c W2.heap.size .free) b bt bm d nd fm k e W2.heap.size (fun x=>(fileAt e.f x).isSome) cnt [] from
  ⟨Ext.refl _ _ _,HLS.o.ext he4 rfl rfl rfl (fun _ _=>rfl),HTB.o.ext he4 rfl (fun _ _=>rfl),HRG.o,HP0.o,qM _ _ _,by rw[qJ hfl (zo _)];exact H1.o.fcol k e HE.o⟩)
 have HOK:=Hh (show ∀ x:List UInt8,(fileAt e.f x).isSome=true→x.length≤maxLen from fun x hx=>by
  obtain⟨n,h2⟩:=qDP hx
  have:=qCJ HD.o.ok HE.o _ (nO h2)
  unfold maxLen
  simp only at this
  omega)
 clear hrg hgr he4 q4 hr2;generalize hr:W2.heap.size=r at *;go_simp
 go_loopw [30] (fun _ wr=>∃ (left:List UInt8→Bool) (cn:Nat) (cr:Nat→Col) (v:List (List UInt8×Nat)),Hg (DrSt w4 wr (jC c r .free) cr b bt bm d nd fm k e r left cn v)) (fun _ wr=>wr.rangeLeft (fm k) r)
 case atStart=>exact⟨_,_,_,_,H0⟩
 case round =>
  obtain⟨left,cn,cr,v,HS⟩:=hrel;have hm0:=HS.o.range.left_eq;go_wp2_with (at_next;refine qAg rfl _ rfl okS HOK.o rfl HS.o.range ?_ ?_)
  case _ =>
   intro hdone;have HDN:=Hh hdone;clear hdone;go_wp2;go_ret;have hf:(e.f.filter fun q=>left q.1)=[]:=List.filter_eq_nil_iff.2 (fun q _=>by rw[HDN.o];decide);have hp:=HS.o.perm;rw[hf,List.append_nil] at hp;have ht:=HS.o.tab;rw[qDm hp] at ht;refine⟨rfl,cr,?_,HS.o.less.shut ht⟩;exact(((Ext.of_below HB1.o c mN).then HE2.o (jP rfl)).then HE4.o (fun _ _=>rfl)).then HS.o.ext (fun x hx=>by cases x<;>first | rfl | (cases hx))
  case _ =>
   intro x v0 w5 cnt' hlx hfx hrg5 hlt hgr5 hsz5 hen;obtain⟨n,hn⟩:=qDP (by rw[hfx];rfl);have hv:v0=.int .i64 (n:Int):=by
    unfold fileAt at hfx;rw[hn] at hfx;exact(Option.some.inj hfx).symm
   subst hv;have hq:=nO hn;have hnd:(e.f.map (·.1)).Nodup:=qFl HD.o.ok HE.o;have hp2:(v++(x,n)::e.f.filter fun q=>left q.1&&!decide (q.1=x)).Perm e.f:=((qEV hnd hq hlx).append_left v).symm.trans HS.o.perm;obtain⟨t1,t2,ino,hino,hlk⟩:=qIS HD.o.ok HM.o hp2;have hsm:=HD.o.small HE.o _ hq;have hents:=HD.o.ents;have hdk:=HD.o.disk;have e5:Ext wr w5 cr cr (S1 .free):=(Ext.refl wr cr (S1 .free)).grown hgr5 (fun k hk _=>by injection hk with hk;subst hk;rw[HS.o.rcol];rfl);have HT5:=Hh (HS.o.tab.ext e5 rfl (fun x hx=>yU (by intro e;subst e;cases hx)));have HL5:=Hh (HS.o.less.ext e5 rfl rfl rfl (fun _ _=>rfl));have HR5:=Hh hrg5;have HE5:=Hh e5;have HLT:=Hh hlt;have HLX:=Hh hlx;have HP2:=Hh hp2;have c0:=ce0 HL5.o.own;have HU:=Hh (qDB HT5.o t1 (by rw[t2];exact hdk) n hsm hino (by omega));have HSN:=Hh (show qK d.t (v++[(x,n)])=_ from (qDh v x n d.t).trans (wB hino));simp only[mkS] at hen;clear hrg5 hgr5 hlt hlx hfx hp2 e5 t1 t2 hino hlk hsm hdk hq;go_wp2_with (go_at_call 168;refine HU.o.mono ?_;rintro ev w6 ⟨rfl,c6,he6,ht6⟩);have hr5:RangeAt Tryz.prog 9 oB w6 (fm k) r e.f.length (fileAt e.f) (fun y=>left y&&!decide (y=x)) cnt' :=
    HR5.o.of_blocks (he6.keep _ HR5.o.at_.lt (by rw[HS.o.fcol];rfl)).1 (he6.keep _ HR5.o.lt (by rw[HS.o.rcol];rfl)).1
   refine⟨⟨fun y=>left y&&!decide (y=x),cnt',c6,v++[(x,n)],Hh ⟨?_,HL5.o.ext he6 rfl rfl rfl (fun _ _=>rfl),by rw[HSN.o];exact ht6,hr5,?_,he6.col HR5.o.lt HS.o.rcol rfl,he6.col HR5.o.at_.lt HS.o.fcol rfl⟩⟩,?_⟩
   ·exact(HS.o.ext.then HE5.o (jP rfl)).then he6 (fun x hx=>by cases x<;>first | rfl | (cases hx))
   ·have:=HP2.o;rw[List.append_assoc];exact this
   ·rw[hr5.left_eq,hm0];exact HLT.o
end
end Go.Proofs.YtbmkaekimccdgaaGreatDoor
namespace Go.Proofs.YtbmkaekimccdgaaGreatDoor
open Go.RowKit Go.Maps Go.Sort Go.Shelf Stl
def mU:Col→Bool:=fun y=>oY y||decide (y=.free)
theorem nN:∀ x,mU x=false→mN x=false:=fun x hx=>by cases x<;>first | rfl | (cases hx)
theorem qNi:∀ x,mU x=false→S0 x=false:=fun _ _=>rfl
theorem qJQ:∀ x,mN x=false→pW x=false:=fun x hx=>by cases x<;>first | rfl | (cases hx)
structure vB (s:Sto):Prop where
 ok:mP s
 good:DirsGood s.d
 room:s.d.t.l.length≤900000
theorem qBA {l:List (List UInt8)}(h:Rise l):l.Nodup:=List.Pairwise.imp (R:=(·<·)) (S:=(·≠·)) (fun {a b} h (e:a=b)=>Stl.blt_irrefl a (e▸h)) h
theorem nF {α:Type}:∀ {a b:List α},a.Nodup→(∀ x∈a,x∈b)→a.length≤b.length
 | [],_,_,_=>zw _
 | x::r,b,hp,h=>by
  obtain⟨h1,h2⟩:=List.nodup_cons.1 hp;obtain⟨l,m,rfl⟩:=List.append_of_mem (h x (by simp));have:=nF (a:=r) (b:=l++m) h2 (fun y hy=>by
   have:=h y (by simp[hy])
   simp only[zX,zY] at this ⊢
   rcases this with h3 | h3 | h3
   ·exact .inl h3
   ·exact absurd (h3▸hy) h1
   ·exact .inr h3)
  simp at this ⊢;omega
section
variable {w w2:World}{c c2:Nat→Col}{b:Nat}{s:Sto}{bd:Nat}{A:Option Addr}{cap:Nat}{zs:List PkX}{R:Option Addr}{rc tp:Nat}
theorem StoX.redirs (h:StoX w c b s bd A cap zs R rc tp)(e:Ext w w2 c c2 mN){d':Stl.Dirs}(hd:DirsAt w2 c2 bd d'):StoX w2 c2 b { s with d:=d' } bd A cap zs R rc tp :=
 ⟨(e.kept h.own h.col rfl).1,(e.kept h.own h.col rfl).2,hd,h.packs.ext e rfl,h.eq,fun x hx=>⟨(h.ro x hx).1,(h.ro x hx).2.ext e rfl⟩,h.roots.ext e rfl⟩
theorem StoX.relist (h:StoX w c b s bd A cap zs R rc tp)(e:Ext w w2 c c2 (S1 .stoL)){A':Option Addr}{cap':Nat}{zs':List PkX}(hr:RowAt w2 c2 .stoL 150 3 (.slice A' zs'.length cap') zs'.length (zs'.flatMap yF))(hro:∀ x∈zs',x.p.refs.length≤x.cap∧RoStrs w2 c2 x.a x.p.refs) :
  StoX (w2.setCell ⟨b,1,none⟩ (.slice A' zs'.length cap')) c2 b { s with l:=zs'.map (·.p) } bd A' cap' zs' R rc tp∧Ext w2 (w2.setCell ⟨b,1,none⟩ (.slice A' zs'.length cap')) c2 c2 (S1 .sto):=by
 have hb:=e.kept h.own h.col rfl;obtain⟨s1,s2⟩:=Ext.cell hb.1 hb.2 1 (.slice A' zs'.length cap');refine⟨⟨by simpa using s1,hb.2,(h.dirs.ext e rfl (fun x hx=>yU (by intro e;subst e;cases hx))).ext s2 rfl (fun x hx=>yU (by intro e;subst e;cases hx)),hr.ext s2 rfl,rfl,fun x hx=>⟨(hro x hx).1,(hro x hx).2.ext s2 rfl⟩,(h.roots.ext e rfl).ext s2 rfl⟩,s2⟩
theorem StoX.reroots (h:StoX w c b s bd A cap zs R rc tp)(e:Ext w w2 c c2 (S1 .roots)){R':Option Addr}{rc':Nat}{roots':List (List UInt8)}(hr:RowAt w2 c2 .roots 9 1 (.slice R' roots'.length rc') roots'.length (roots'.map encStr)) :
  StoX (w2.setCell ⟨b,2,none⟩ (.slice R' roots'.length rc')) c2 b { s with roots:=roots' } bd A cap zs R' rc' tp∧Ext w2 (w2.setCell ⟨b,2,none⟩ (.slice R' roots'.length rc')) c2 c2 (S1 .sto):=by
 have hb:=e.kept h.own h.col rfl;obtain⟨s1,s2⟩:=Ext.cell hb.1 hb.2 2 (.slice R' roots'.length rc');refine⟨⟨by simpa using s1,hb.2,(h.dirs.ext e rfl (fun x hx=>yU (by intro e;subst e;cases hx))).ext s2 rfl (fun x hx=>yU (by intro e;subst e;cases hx)),(h.packs.ext e rfl).ext s2 rfl,h.eq,fun x hx=>⟨(h.ro x hx).1,((h.ro x hx).2.ext e rfl).ext s2 rfl⟩,hr.ext s2 rfl⟩,s2⟩
theorem StoX.few (h:StoX w c b s bd A cap zs R rc tp)(hs:mP s):zs.length≤40:=by
 rw[h.len];exact hs.pks.many
theorem StoX.fewRefs (h:StoX w c b s bd A cap zs R rc tp)(hs:mP s):∀ x∈zs,x.p.refs.length≤20:=fun x hx=>hs.pks.few x.p (by rw[← h.eq];exact zb.2 ⟨x,hx,rfl⟩)
end
def ChPost (p:Nat→Addr)(w:World)(c:Nat→Col)(b tp:Nat)(r:Except Nat (List UInt8×Sto))(ev:Ending)(w':World):Prop :=
 ∃ (a:ByteArray) (er:Value) (c2:Nat→Col),ev=.returned (.tuple #[.string a,er])∧Ext w w' c c2 mU ∧
  match r with
  | .error cd=>er=jK p cd∧cd≠0
  | .ok q=>er=.nilIface∧a=⟨q.1.toArray⟩∧StoAt w' c2 b q.2 tp
theorem pJ {s:Sto}(hs:mP s):s.roots.length≤40:=zq (nF (qBA hs.rise) hs.roots) (by rw[zT];exact hs.pks.many)
end Go.Proofs.YtbmkaekimccdgaaGreatDoor
namespace Go.Proofs.YtbmkaekimccdgaaGreatDoor
open Go.RowKit Go.Sort Go.Shelf Stl
def qHU (p:Nat→Addr)(w:World)(c:Nat→Col)(r:Except Nat Nd)(ev:Ending)(w':World):Prop:=Below w.heap.size w w'∧nV p (fun b=>c b=.ro) w r ev w'
theorem qNp {d:Stl.Dirs}(h:DirsGood d){k:Nat}{e:Ent}(he:qN d.l k=some e):k≤1000000:=by
 obtain⟨h1,h2⟩:=vX he;have:=h.ok.next e h1;have:=h.next;omega
section
variable {w:World}{A:Option Addr}{zs:List PkX}{c:Nat→Col}{b:Nat}{s:Sto}{bd:Nat}{cap:Nat}{R:Option Addr}{rc tp:Nat}{p:Nat→Addr}
theorem qFy (h:StoX w c b s bd A cap zs R rc tp)(hg:vB s)(hE:Env w c p)(name:List UInt8) :
  Calls Tryz.prog 59 #[.pointer (some ⟨b,0,none⟩),.string ⟨name.toArray⟩] w fun ev w'=>qHU p w c (s.tree name) ev w'∧qKn (s.tree name) ev:=by
 have hfew:=h.few hg.ok;have H:=Hh h;have HG:=Hh hg;have HE:=Hh hE;obtain⟨res,hres⟩:∃ res,res=s.tree name:=⟨_,rfl⟩;rw[← hres];unfold Sto.tree at hres;have hb1:Below w.heap.size w (w.alloc (.cells #[.string ⟨#[]⟩,.string ⟨#[]⟩,.bool false,.slice none 0 0] 134)):=(zB _ w).alloc (zo _) _;have HB1:=Hh hb1;have HBX:=Hh (zK1 w (.cells #[.string ⟨#[]⟩,.string ⟨#[]⟩,.bool false,.slice none 0 0] 134));have HFD:=Hh (gR (h.below hb1) (by omega) name);clear h hg hE hb1;go_enter Tryz.func59,Tryz.ntmps59
 cases hf:s.find name with
 | none =>
  rw[hf] at hres;have HRS:=Hh (show res=.error 6 from hres);have HF:=Hh hf;clear hf hres;go_upto_region 3 with (go_at_call 97;refine HFD.o.mono ?_;rintro ev w2 ⟨⟨i,rfl,hi⟩,hb2⟩;have hneg:=(hi.none_ H.o.eq).1 HF.o;have hbx2:=(hb2.block _ (qA HBX.o)).trans HBX.o;have HB2:=Hh (HB1.o.trans (hb2.mono HB1.o.size));have HBX2:=Hh hbx2;clear hb2 hi hbx2);have hg2:=((HE.o.errs.later HB2.o).cell 6 (by omega) (by omega));have HGL:=Hh (lt_of_cell (HE.o.errs.cell 6 (by omega) (by omega)));have HE6:=Hh (qD p (c:=6) (by omega));rw[HE6.o] at hg2;have hgne:w.heap.size≠5:=by have:=HGL.o;simp[wA] at this;omega
  have hgne':5≠w.heap.size:=hgne.symm;have hg3:w2.cell? ⟨5,0,none⟩=some (.iface 376 (.pointer (some (p 6)))):=hg2;obtain⟨z0,z1,z2,z3⟩:=cq HBX2.o;have f0:w2.frozen? ⟨w.heap.size,0,none⟩=false:=qC HBX2.o 0;have f1:w2.frozen? ⟨w.heap.size,1,none⟩=false:=qC HBX2.o 1;have f2:w2.frozen? ⟨w.heap.size,2,none⟩=false:=qC HBX2.o 2;have f3:w2.frozen? ⟨w.heap.size,3,none⟩=false:=qC HBX2.o 3;clear hg2
  go_region
  obtain⟨w9,E9,HF,HBF⟩:=qGI HBX2.o HB2.o (zo _) (.string ⟨#[]⟩) (.string ⟨#[]⟩) (.bool false) (.slice none 0 0);clear z0 z1 z2 z3 f0 f1 f2 f3 hgne hgne' hg3;go_wp2_with fail;rw[E9.o];obtain⟨r0,r1,r2,r3⟩:=cq HF.o;refine zH1 (v:=.tuple #[.agg #[.string ⟨#[]⟩,.string ⟨#[]⟩,.bool false,.slice none 0 0],.iface 376 (.pointer (some (p 6)))]) ?_ rfl ⟨⟨HBF.o,?_⟩,fun _ _=>⟨_,rfl⟩⟩
  ·simp[results,Tryz.results59,go_sem,r0,r1,r2,r3]
  ·rw[HRS.o];exact⟨_,_,_,_,_,_,_,rfl,HE6.o.symm,by decide⟩
 | some pk =>
  rw[hf] at hres;have HRS:=Hh (show res=s.d.get pk.k from hres);have HF:=Hh hf;have hpm:∃ e,qN s.d.l pk.k=some e:=by
   have h1:pk∈s.l:=(wU hf).1;have h2:pk.k∈s.d.l.map (·.k):=by rw[← HG.o.ok.ks];exact zb.2 ⟨pk,h1,rfl⟩
   obtain⟨e,he,hk⟩:=zb.1 h2;exact⟨e,hk▸jI HG.o.ok.dirs.keys he⟩
  obtain⟨e,he⟩:=hpm;have HKB:=Hh (qNp HG.o.good he);have HEN:=Hh he;clear hf hres he;go_upto_region 4 with (go_at_call 97;refine HFD.o.mono ?_;rintro ev w2 ⟨⟨i,rfl,hi⟩,hb2⟩;obtain⟨ki,hki,rfl,hpk⟩:=hi.some_ H.o.eq HG.o.ok.pks.names HF.o;have HPK:=Hh hpk;have hbx2:=(hb2.block _ (qA HBX.o)).trans HBX.o;have HB2:=Hh (HB1.o.trans (hb2.mono HB1.o.size));have HBX2:=Hh hbx2;clear hb2 hi hbx2 hpk);obtain⟨c',hc'⟩:∃ c':Nat→Col,c'=fun k=>if k<w.heap.size then c k else .free:=⟨_,rfl⟩
  have HCO:=Hh (show ∀ k,c' k=.ro→c k=.ro∧k<w.heap.size from fun k hk=>by
   rw[hc'] at hk
   have hk:(if k<w.heap.size then c k else Col.free)=.ro:=hk
   by_cases hl:k<w.heap.size
   ·rw[zM1 hl] at hk;exact⟨hk,hl⟩
   ·rw[zL1 hl] at hk;cases hk)
  have HX2:=Hh (H.o.ext (show Ext w w2 c c' S0 from (Ext.of_below HB2.o c S0).recolor fun k hk _=>by rw[hc'];exact zM1 hk) rfl (fun _ _=>rfl));clear hc';obtain⟨g,hA,hgl,s0,s1,s2⟩:=HX2.o.kept.at hki;subst hA;rw[HPK.o] at s2;clear s0 s1;have c0:=ce0 HX2.o.own;have c1:=ce1 HX2.o.own;have k1:(ki:Int)<(zs.length:Int):=by omega
  have k2:(0:Int)≤(ki:Int):=by omega
  have HGT:=Hh (fun (W:World) (hb:Below w2.heap.size w2 W)=>qLI (p:=p) (HX2.o.below hb).dirs HG.o.good pk.k HKB.o (HE.o.errs.later (HB2.o.trans (hb.mono HB2.o.size))) HEN.o);have HDR:=Hh (zB w2.heap.size w2).drew;have hlx2:=qA HBX2.o;generalize pk.k=kq at *
  go_region_law
   (first
    | (go_simp;go_at_call 98;refine(HGT.o _ (zB _ _)).mono ?_;rintro ev w3 ⟨hb3,⟨a0,a1,a2,A5,m5,cp5,er,rfl,hpost⟩,hz⟩;have HZ:=Hh hz;clear hz;have HPO:=Hh hpost;have HB3:=Hh hb3;have hbx3:=(hb3.block _ hlx2).trans HBX2.o;have HBX3:=Hh hbx3;have z0:w3.cell? ⟨w.heap.size,0,none⟩=some (.string ⟨#[]⟩):=zJ1 w3 _ 0 _ _ _ hbx3;have z1:w3.cell? ⟨w.heap.size,1,none⟩=some (.string ⟨#[]⟩):=zJ1 w3 _ 1 _ _ _ hbx3;have z2:w3.cell? ⟨w.heap.size,2,none⟩=some (.bool false):=zJ1 w3 _ 2 _ _ _ hbx3;have z3:w3.cell? ⟨w.heap.size,3,none⟩=some (.slice none 0 0):=zJ1 w3 _ 3 _ _ _ hbx3;obtain⟨f0,f1,f2,f3⟩:=Stl.fq hbx3;clear hpost hb3 hbx3)
    | (go_simp;go_at_call 98;refine(HGT.o _ HDR.o).mono ?_;rintro ev w3 ⟨hb3',⟨a0,a1,a2,A5,m5,cp5,er,rfl,hpost⟩,hz⟩;have HZ:=Hh hz;clear hz;have hb3:Below w2.heap.size w2 w3:=HDR.o.trans hb3';clear hb3';have HPO:=Hh hpost;have HB3:=Hh hb3;have hbx3:=(hb3.block _ hlx2).trans HBX2.o;have HBX3:=Hh hbx3;have z0:w3.cell? ⟨w.heap.size,0,none⟩=some (.string ⟨#[]⟩):=zJ1 w3 _ 0 _ _ _ hbx3;have z1:w3.cell? ⟨w.heap.size,1,none⟩=some (.string ⟨#[]⟩):=zJ1 w3 _ 1 _ _ _ hbx3;have z2:w3.cell? ⟨w.heap.size,2,none⟩=some (.bool false):=zJ1 w3 _ 2 _ _ _ hbx3;have z3:w3.cell? ⟨w.heap.size,3,none⟩=some (.slice none 0 0):=zJ1 w3 _ 3 _ _ _ hbx3;obtain⟨f0,f1,f2,f3⟩:=Stl.fq hbx3;clear hpost hb3 hbx3)
    | fail)
  all_goals
   have hpo:=HPO.o;have HBW:=Hh (HB2.o.trans (HB3.o.mono HB2.o.size));have HF:=Hh (show ((((w3.setCell ⟨w.heap.size,0,none⟩ (.string a0)).setCell ⟨w.heap.size,1,none⟩ (.string a1)).setCell ⟨w.heap.size,2,none⟩ (.bool a2)).setCell ⟨w.heap.size,3,none⟩ (.slice A5 m5 cp5)).heap[w.heap.size]?=some (.cells #[(.string a0),(.string a1),(.bool a2),(.slice A5 m5 cp5)] 134 (0,0)) from qH (qH (qH (qH HBX3.o 0 (.string a0)) 1 (.string a1)) 2 (.bool a2)) 3 (.slice A5 m5 cp5));have HBF:=Hh ((((HBW.o.setCell (p:=⟨w.heap.size,0,none⟩) (zo _) (.string a0)).setCell (p:=⟨w.heap.size,1,none⟩) (zo _) (.string a1)).setCell (p:=⟨w.heap.size,2,none⟩) (zo _) (.bool a2)).setCell (p:=⟨w.heap.size,3,none⟩) (zo _) (.slice A5 m5 cp5));have HFP:=Hh (show (match s.d.get kq with
    | .ok y=>er=.nilIface∧NodeP (fun b=>c b=.ro∨w.heap.size≤b) ((((w3.setCell ⟨w.heap.size,0,none⟩ (.string a0)).setCell ⟨w.heap.size,1,none⟩ (.string a1)).setCell ⟨w.heap.size,2,none⟩ (.bool a2)).setCell ⟨w.heap.size,3,none⟩ (.slice A5 m5 cp5)) y [.string a0,.string a1,.bool a2,.slice A5 m5 cp5]
    | .error cd=>er=jK p cd∧cd≠0) from by
    revert hpo
    cases s.d.get kq with
    | error cd=>exact fun h=>h
    | ok y =>
     rintro ⟨h1,h2⟩
     refine⟨h1,?_⟩
     have h3:=NodeP.go (zo w3.heap.size) (fun k hk hp=>⟨rfl,(show (c k=.ro∨w.heap.size≤k)∧k≠w.heap.size from by
      rcases hp with hp | hp
      ·have h4:=HCO.o k hp
       exact⟨.inl h4.1,by omega⟩
      ·have h4:w2.heap.size≤k:=hp
       exact⟨.inr (by omega),by omega⟩)⟩) _ _ h2
     exact NodeP.go (zo _) (fun k _ hp=>⟨rfl,hp.1⟩) _ _ (NodeP.set4 h3 (fun k hk=>hk.2)))
   clear z0 z1 z2 z3 f0 f1 f2 f3 hpo HPO c0 c1 s2;go_wp2_with fail;generalize ((((w3.setCell ⟨w.heap.size,0,none⟩ (.string a0)).setCell ⟨w.heap.size,1,none⟩ (.string a1)).setCell ⟨w.heap.size,2,none⟩ (.bool a2)).setCell ⟨w.heap.size,3,none⟩ (.slice A5 m5 cp5))=wz at *;obtain⟨r0,r1,r2,r3⟩:=cq HF.o;refine zH1 (v:=.tuple #[.agg #[(.string a0),(.string a1),(.bool a2),(.slice A5 m5 cp5)],er]) ?_ rfl ⟨⟨HBF.o,?_⟩,by rw[HRS.o];exact HZ.o⟩
   ·simp[results,Tryz.results59,go_sem,r0,r1,r2,r3]
   ·rw[HRS.o];exact⟨_,_,_,_,_,_,_,rfl,HFP.o⟩
theorem qLZ (h:StoX w c b s bd A cap zs R rc tp)(hg:vB s)(hE:Env w c p)(name:List UInt8) :
  Calls Tryz.prog 59 #[.pointer (some ⟨b,0,none⟩),.string ⟨name.toArray⟩] w (qHU p w c (s.tree name)):=(qFy h hg hE name).mono fun _ _ h=>h.1
end
def mO (r:Except Nat Nd):Nd:=match r with | .ok n=>n | .error _=>.mk [] [] false []
def oT (p:Nat→Addr)(r:Except Nat Nd):Value:=match r with | .ok _=>.nilIface | .error cd=>jK p cd
theorem qKN (w:World):NodeAt w (.mk [] [] false []) [.string ⟨#[]⟩,.string ⟨#[]⟩,.bool false,.slice none 0 0]:=by
 unfold NodeAt;exact⟨none,0,rfl,⟨zo _,by decide,by decide,by decide⟩,fun h=>absurd rfl h⟩
theorem qN9 {w:World}{g off:Nat}{s0 s1:ByteArray}{e:Bool}{A:Option Addr}{m c:Nat}{T:TypeId}{fr:Nat×Nat}{x y z:ByteArray}(h:w.heap[g]?=some (.cells #[.string s0,.string s1,.bool e,.slice A m c] T fr))
  (h0:w.cell? ⟨g,off,none⟩=some (.string x)) (h1:w.cell? ⟨g,off+1,none⟩=some (.string y)) (h2:w.cell? ⟨g,off+2,none⟩=some (.string z)):False:=by
 match off with
 | 0=>rw[zJ1 w _ 2 _ _ _ h] at h2;simp at h2
 | 1=>rw[zJ1 w _ 2 _ _ _ h] at h1;simp at h1
 | k+2=>rw[zJ1 w _ (k+4) _ _ _ h] at h2;simp at h2
mutual
theorem NodeAt.box {w:World}{g:Nat}{s0 s1:ByteArray}{e0:Bool}{A0:Option Addr}{m0 c0:Nat}{T:TypeId}{fr:Nat×Nat}(hg:w.heap[g]?=some (.cells #[.string s0,.string s1,.bool e0,.slice A0 m0 c0] T fr)):∀ (n:Nd) (vs:List Value),NodeAt w n vs→NodeP (fun b=>b≠g) w n vs
 | .mk k d e ks,vs,h=>by
  unfold NodeAt at h;unfold NodeP;obtain⟨A,c,h1,h2,h3⟩:=h;refine⟨A,c,h1,h2,fun hn=>?_⟩;obtain⟨b,off,h4,h5,h6⟩:=h3 hn;refine⟨b,off,h4,⟨h5,fun hb=>?_⟩,KidsAt.box hg ks off h6⟩;subst hb
  match ks,hn,h6 with
  | (nm,.mk k2 d2 e2 ks2)::r,_,h6 =>
   unfold KidsAt at h6;obtain⟨p1,⟨v0,v1,v2,v3,c0,c1,c2,c3,p2⟩,_⟩:=h6;obtain⟨A2,c2',he,_⟩:=NodeAt.open p2;simp only[zD,and_true] at he;obtain⟨rfl,rfl,rfl,rfl⟩:=he;exact qN9 hg p1.1 c0 c1
theorem KidsAt.box {w:World}{g:Nat}{s0 s1:ByteArray}{e0:Bool}{A0:Option Addr}{m0 c0:Nat}{T:TypeId}{fr:Nat×Nat}(hg:w.heap[g]?=some (.cells #[.string s0,.string s1,.bool e0,.slice A0 m0 c0] T fr)){b:Nat}:∀ (ks:List (List UInt8×Nd)) (off:Nat),KidsAt w b off ks→KidsP (fun b=>b≠g) w b off ks
 | [],_,_=>by unfold KidsP;trivial
 | (name,x)::r,off,h=>by
  unfold KidsAt at h;unfold KidsP;obtain⟨h1,⟨v0,v1,v2,v3,c0,c1,c2,c3,h2⟩,h3⟩:=h;exact⟨h1,⟨v0,v1,v2,v3,c0,c1,c2,c3,NodeAt.box hg x _ h2⟩,KidsAt.box hg r (off+5) h3⟩
end
structure GotAt (p:Nat→Addr)(res:Except Nat Nd)(w0 wx:World)(g:Nat)(er:Value):Prop where
 er:er=oT p res
 box:∃ (a0 a1:ByteArray) (a2:Bool) (A:Option Addr) (m cp:Nat),wx.heap[g]?=some (.cells #[.string a0,.string a1,.bool a2,.slice A m cp] 134 (0,0))∧NodeAt wx (mO res) [.string a0,.string a1,.bool a2,.slice A m cp]
 below:Below w0.heap.size w0 wx
section
variable {p:Nat→Addr}{res:Except Nat Nd}{w0 w2:World}{g:Nat}{er:Value}{a0 a1:ByteArray}{a2:Bool}{A:Option Addr}{m cp:Nat}
theorem gT (hb:Below w0.heap.size w0 w2)(he:er=oT p res)(hn:NodeAt w2 (mO res) [.string a0,.string a1,.bool a2,.slice A m cp]):GotAt p res w0 (w2.alloc (.cells #[.string a0,.string a1,.bool a2,.slice A m cp] 134)) w2.heap.size er :=
 ⟨he,⟨_,_,_,_,_,_,zK1 _ _,NodeAt.later ((zB _ _).alloc (zo _) _) _ _ hn⟩,hb.alloc hb.size _⟩
theorem wY (hg:w0.heap.size≤g)(hb:Below w0.heap.size w0 w2)(hx:w2.heap[g]?=some (.cells #[.string ⟨#[]⟩,.string ⟨#[]⟩,.bool false,.slice none 0 0] 134 (0,0)))(he:er=oT p res)(hn:NodeAt w2 (mO res) [.string a0,.string a1,.bool a2,.slice A m cp]) :
  GotAt p res w0 ((((w2.setCell ⟨g,0,none⟩ (.string a0)).setCell ⟨g,1,none⟩ (.string a1)).setCell ⟨g,2,none⟩ (.bool a2)).setCell ⟨g,3,none⟩ (.slice A m cp)) g er :=
 ⟨he,⟨_,_,_,_,_,_,qH (qH (qH (qH hx 0 (.string a0)) 1 (.string a1)) 2 (.bool a2)) 3 (.slice A m cp),NodeP.at _ _ (NodeP.set4 (NodeAt.box hx _ _ hn) (fun _ h=>h))⟩,
  (((hb.setCell (p:=⟨g,0,none⟩) hg _).setCell (p:=⟨g,1,none⟩) hg _).setCell (p:=⟨g,2,none⟩) hg _).setCell (p:=⟨g,3,none⟩) hg _⟩
theorem GotAt.up {w3:World}(h:GotAt p res w0 w2 g er)(hb:Below w2.heap.size w2 w3):GotAt p res w0 w3 g er:=by
 obtain⟨b0,b1,b2,B,n,c,h1,h2⟩:=h.box;exact⟨h.er,⟨b0,b1,b2,B,n,c,(hb.block _ (qA h1)).trans h1,NodeAt.later hb _ _ h2⟩,h.below.trans (hb.mono h.below.size)⟩
end
end Go.Proofs.YtbmkaekimccdgaaGreatDoor
namespace Go.Proofs.YtbmkaekimccdgaaGreatDoor
open Go.RowKit Stl
def mkK (x:List UInt8×Bool):Value:=.agg #[.string ⟨x.1.toArray⟩,.bool x.2]
def oX (x:List UInt8×Bool):Lit:=.string (keyBytes [.string x.1,.bool x.2])
theorem qJk:laidOutB Tryz.prog=true:=by kernel_rfl
theorem qMN:(358:TypeId)<Tryz.prog.types.size:=of_decide_eq_true (by kernel_rfl)
theorem qLB:(match Tryz.prog.underlying 358 with | some (.array _ _) | some (.struct _)=>true | _=>false)=true:=by kernel_rfl
theorem qHH:WideMaps.KeyLaw Tryz.prog 358:=deep_law_laid qJk (m:=2) (by omega) qMN (by kernel_rfl) qLB
theorem qJI:Tryz.prog.keyType 358=true:=by kernel_rfl
theorem qIG:Tryz.prog.cellsOf 358=2:=by kernel_rfl
theorem qNz:Tryz.prog.cellsOf 9=1:=by kernel_rfl
theorem qNr:Tryz.prog.cellsOf 4=1:=by kernel_rfl
theorem qK9:∃ n,Tryz.prog.types.size=n+1:=⟨Tryz.prog.types.size-1,by kernel_rfl⟩
theorem qGR (x:List UInt8×Bool)(hx:x.1.length≤maxLen):keyOf Tryz.prog 358 (mkK x)=some (oX x):=by
 obtain⟨s,e⟩:=x;obtain⟨n,hn⟩:=qK9;have hsz:ByteArray.size ⟨s.toArray⟩≤maxLen:=hx;unfold keyOf;rw[Tryz.underlying358];simp only[mkK,oX,qJI,hn];simp[Value.formed,Tryz.underlying358,qIG,Program.keyLits,qNz,qNr,Tryz.underlying9,Tryz.underlying4,hsz,Value.cells]
abbrev oM:={ x:List UInt8×Bool // x.1.length≤maxLen }
def mkT (x:oM):Value:=mkK x.1
def oZ (x:oM):Lit:=oX x.1
theorem qMx (a b:oM)(h:oZ a=oZ b):a=b:=by
 have h1:=qGR a.1 a.2;have h2:=qGR b.1 b.2;rw[show oX b.1=oX a.1 from h.symm] at h2;have h3:=qHH.inj h1 h2;obtain⟨⟨s,e⟩,ha⟩:=a;obtain⟨⟨s',e'⟩,hb⟩:=b;simp only[mkK,Value.agg.injEq,Array.mk.injEq,zD,Value.string.injEq,ByteArray.mk.injEq,Value.bool.injEq,and_true] at h3;obtain⟨rfl,rfl⟩:=h3;rfl
theorem okK:pM Tryz.prog 358 mkT oZ (fun _=>True):=⟨Maps.Keyed.of_law qHH,fun x _=>qGR x.1 x.2,qMx⟩
end Go.Proofs.YtbmkaekimccdgaaGreatDoor
