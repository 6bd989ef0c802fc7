/- Texts of this claim, merged: Drop, StoKit, StoTree, OptKey, OptPure, All. -/
import Derived.DeepKeys4
import Derived.Maps.Own
import Derived.Shelf.AbstractIn
import Derived.Test.YtceklhjomhjipaaGreatDoorKm25
set_option maxHeartbeats 16000000
set_option maxRecDepth 1000000
set_option linter.all false
namespace Go.Proofs.YtceklhjomhjipaaGreatDoor
open Go.RowKit Go.Sort Go.Shelf Stl
theorem qFM {d:Stl.Dirs} (hd:qAN d) {k:Nat} {e:Ent} (he:qAi d.l k=some e):∀ q∈e.f,q.1.length≤1000000:=fun q hq=>by
 have hm:=zg he
 have h1:q.1∈qAv e.n:=by rw [← hd.files e hm];exact ze.2 ⟨q,hq,rfl⟩
 unfold qAv at h1
 obtain ⟨x,hx,h2⟩:=ze.1 h1
 have hx2:=(zZ.1 hx).1
 have hx3:x∈Stl.flat e.n [] 0:=by
  unfold items at hx2
  split at hx2
  ·exact hx2
  ·cases hx2
 have:=((items_well (hd.well e hm)).2 x hx3).2
 rw [← h2]
 unfold told
 split
 ·simp
 ·omega
theorem qIR {P:List UInt8→Bool} {x:List UInt8} {n:Nat}:∀ {l:List (List UInt8×Nat)},(l.map (·.1)).Nodup→(x,n)∈l→P x=true→(l.filter fun q=>P q.1).Perm ((x,n)::l.filter fun q=>P q.1&&!decide (q.1=x))
 | [],_,h,_=>by cases h
 | y::r,hn,h,hp=>by
  obtain ⟨h1,h2⟩:=List.nodup_cons.1 hn
  by_cases hy:y.1=x
  ·have hy2:y=(x,n):=by
    rcases zY.1 h with e | e
    ·exact e.symm
    ·exact absurd (ze.2 ⟨_,e,hy.symm⟩) h1
   subst hy2
   have hr:(r.filter fun q=>P q.1&&!decide (q.1=x))=r.filter fun q=>P q.1:=by
    refine List.filter_congr fun q hq=>?_
    have:q.1≠x:=fun e=>h1 (ze.2 ⟨q,hq,e⟩)
    simp [this]
   rw [zK (by simpa using hp),zJ (by simp),hr]
  ·have hm:(x,n)∈r:=by
    rcases zY.1 h with e | e
    ·exact absurd (by rw [← e]) hy
    ·exact e
   have ih:=qIR h2 hm hp
   cases hq:P y.1 with
   | true =>
    rw [zK (by simpa using hq),zK (by simp [hq,hy])]
    exact (ih.cons y).trans (List.Perm.swap _ _ _)
   | false =>
    rw [zJ (by simp [hq]),zJ (by simp [hq])]
    exact ih
def qDz:Col→Bool:=fun y=>qFt y||decide (y=.free)
structure DrSt (w4 wr:World) (c4 cr:Nat→Col) (b bt bm:Nat) (d:Stl.Dirs) (nd:Nat→List Value) (fm:Nat→Nat) (k:Nat) (e:Ent) (r:Nat) (left:List UInt8→Bool) (cnt:Nat) (v:List (List UInt8×Nat)):Prop where
 ext:Ext w4 wr c4 cr (fun y=>qMd y||decide (y=.free))
 less:DirsLess wr cr b d bt bm nd fm k
 tab:TabAt wr cr bt (qAg d.t v)
 range:RangeAt Tryz.prog 9 qLE wr (fm k) r e.f.length (fileAt e.f) left cnt
 perm:(v++e.f.filter fun q=>left q.1).Perm e.f
 rcol:cr r=.free
 fcol:cr (fm k)=.files k
section
variable {w:World} {c:Nat→Col} {b:Nat} {d:Stl.Dirs}
theorem qEE {f:List (List UInt8×Nat)} {x:List UInt8} {n:Nat} (h:qAI f x=some n):(x,n)∈f:=by
 unfold qAI at h
 cases hf:f.find? fun p=>p.1==x with
 | none=>rw [hf] at h;cases h
 | some q =>
  rw [hf] at h
  simp only [zA1,zB1] at h
  have h1:=zg hf
  have h2:=List.find?_some hf
  have h3:q.1=x:=by simpa using h2
  obtain ⟨a,m⟩:=q
  simp only at h h3
  subst h h3
  exact h1
theorem qGX {f:List (List UInt8×Nat)} {x:List UInt8} (h:(fileAt f x).isSome=true):∃ n,qAI f x=some n:=by
 unfold fileAt at h
 rw [Option.isSome_map] at h
 exact zz.1 h
theorem qIo {d:Stl.Dirs} (hd:qAN d) {k:Nat} {e:Ent} (he:qAi d.l k=some e):(e.f.map (·.1)).Nodup:=by
 rw [hd.files e (zg he)]
 exact qBU _
theorem qP4 (h:DirsAt w c b d) (hd:DirsGood d) (k:Nat) (hk:k≤1000000) {e:Ent} (he:qAi d.l k=some e) :
  Calls Tryz.prog 69 #[.pointer (some ⟨b,0,none⟩),.int .i64 k] w fun ev w'=>ev=.returned .nilIface∧∃ c2,Ext w w' c c2 qDz∧DirsAt w' c2 b { d with t:=qAg d.t e.f,l:=d.l.filter fun x=>x.k != k }:=by
 obtain ⟨bt,bm,nd,fm,h⟩:=h
 have hlk:=h.lookOk hk he
 obtain ⟨k',d',e',ks,A,cap,hn,hnd,hnp⟩:=h.ent he
 rw [hnd] at hlk
 simp only [zE,zi] at hlk
 have c1:=ce1 h.own
 have hb1:Below w.heap.size w (w.alloc (.cells #[.string ⟨k'.toArray⟩,.string ⟨d'.toArray⟩,.bool e',.slice A ks.length cap,.map (some (fm k))] 134)):=(zB _ w).alloc (zq _) _
 have HB1:=Hh hb1
 have HEX:=Hh (zK1 w (.cells #[.string ⟨k'.toArray⟩,.string ⟨d'.toArray⟩,.bool e',.slice A ks.length cap,.map (some (fm k))] 134))
 have H1:=Hh (h.below hb1)
 have HD:=Hh hd
 have HE:=Hh he
 have HM:=Hh (zg he)
 have hbm:=h.map.lt
 clear h hnp hn hnd hb1 hd he
 go_enter Tryz.func69,Tryz.ntmps69
 go_upto_region 4 with fail
 clear hlk c1
 generalize w.alloc (.cells #[.string ⟨k'.toArray⟩,.string ⟨d'.toArray⟩,.bool e',.slice A ks.length cap,.map (some (fm k))] 134)=w1 at *
 have c1:=ce1 H1.out.own
 have HMP:=Hh H1.out.map
 go_upto_region 5 with (at_delete;refine qEw rfl _ _ 87 134 rfl okN Tryz.underlying87 rfl HMP.out k (by omega) rfl ?_;intro W2 hmap hturn)
 have he2:=Ext.turned hturn (c:=c) H1.out.mcol
 have HE2:=Hh he2
 have HLS:=Hh (H1.out.less k hmap he2)
 have HFM:=Hh ((H1.out.files k e HE.out).ext he2 (H1.out.fcol k e HE.out) (qBm (by intro e;cases e)))
 have HTB:=Hh (H1.out.tab.ext he2 rfl (fun x hx=>qBm (by intro e;subst e;cases hx)))
 have q4:W2.cell? ⟨w.heap.size,4,none⟩=some (.map (some (fm k))):=by
  have hb:=hturn.grown.block w.heap.size (qAa HEX.out) (fun e=>by injection e with e;omega)
  exact zJ1 W2 _ 4 _ _ _ (hb.trans HEX.out)
 clear hturn hmap he2 c1
 go_wp2_with (at_range;refine qB2 rfl _ 132 3 rfl okS Tryz.underlying132 rfl HFM.out ?_;intro w4 cnt hrg hgr hsz)
 have HRG:=Hh hrg
 have he4:=((Ext.refl W2 c S0).grown hgr (fun k hk=>by cases hk)).recolor (c3:=qAs c W2.heap.size .free) (fun k hk _=>qAf hk (zq _))
 have HE4:=Hh he4
 have hfl:fm k<W2.heap.size:=HFM.out.lt
 have hr2:fm k<w4.heap.size:=by omega
 have HP0:=Hh (show ([]++e.f.filter fun q:List UInt8×Nat=>(fileAt e.f q.1).isSome).Perm e.f by
  rw [zi,List.filter_eq_self.2]
  intro q hq
  unfold fileAt
  rw [Option.isSome_map]
  unfold qAI
  rw [Option.isSome_map,List.find?_isSome]
  exact ⟨q,hq,by simp⟩)
 have H0:=Hh (show DrSt w4 w4 (qAs c W2.heap.size .free) (qAs c W2.heap.size .free) b bt bm d nd fm k e W2.heap.size (fun x=>(fileAt e.f x).isSome) cnt [] from
  ⟨Ext.refl _ _ _,HLS.out.ext he4 rfl rfl rfl (fun _ _=>rfl),HTB.out.ext he4 rfl (fun _ _=>rfl),HRG.out,HP0.out,qAm _ _ _,by rw [qAf hfl (zq _)];exact H1.out.fcol k e HE.out⟩)
 have HOK:=Hh (show ∀ x:List UInt8,(fileAt e.f x).isSome=true→x.length≤maxLen from fun x hx=>by
  obtain ⟨n,h2⟩:=qGX hx
  have:=qFM HD.out.ok HE.out _ (qEE h2)
  unfold maxLen
  simp only at this
  omega)
 clear hrg hgr he4 q4 hr2
 generalize hr:W2.heap.size=r at *
 go_simp
 go_loopw [30] (fun _ wr=>∃ (left:List UInt8→Bool) (cn:Nat) (cr:Nat→Col) (v:List (List UInt8×Nat)),Hid (DrSt w4 wr (qAs c r .free) cr b bt bm d nd fm k e r left cn v)) (fun _ wr=>wr.rangeLeft (fm k) r)
 case atStart=>exact ⟨_,_,_,_,H0⟩
 case round =>
  obtain ⟨left,cn,cr,v,HS⟩:=hrel
  have hm0:=HS.out.range.left_eq
  go_wp2_with (at_next;refine qCe rfl _ rfl okS HOK.out rfl HS.out.range ?_ ?_)
  case _ =>
   intro hdone
   have HDN:=Hh hdone
   clear hdone
   go_wp2
   go_ret
   have hf:(e.f.filter fun q=>left q.1)=[]:=List.filter_eq_nil_iff.2 (fun q _=>by rw [HDN.out];decide)
   have hp:=HS.out.perm
   rw [hf,List.append_nil] at hp
   have ht:=HS.out.tab
   rw [qGH hp] at ht
   refine ⟨rfl,cr,?_,HS.out.less.shut ht⟩
   exact (((Ext.of_below HB1.out c qDz).then HE2.out (qAE rfl)).then HE4.out (fun _ _=>rfl)).then HS.out.ext (fun x hx=>by cases x<;>first | rfl | (cases hx))
  case _ =>
   intro x v0 w5 cnt' hlx hfx hrg5 hlt hgr5 hsz5 hen
   obtain ⟨n,hn⟩:=qGX (by rw [hfx];rfl)
   have hv:v0=.int .i64 (n:Int):=by
    unfold fileAt at hfx
    rw [hn] at hfx
    exact (Option.some.inj hfx).symm
   subst hv
   have hq:=qEE hn
   have hnd:(e.f.map (·.1)).Nodup:=qIo HD.out.ok HE.out
   have hp2:(v++(x,n)::e.f.filter fun q=>left q.1&&!decide (q.1=x)).Perm e.f:=((qIR hnd hq hlx).append_left v).symm.trans HS.out.perm
   obtain ⟨t1,t2,ino,hino,hlk⟩:=qLV HD.out.ok HM.out hp2
   have hsm:=HD.out.small HE.out _ hq
   have hents:=HD.out.ents
   have hdk:=HD.out.disk
   have e5:Ext wr w5 cr cr (S1 .free):=(Ext.refl wr cr (S1 .free)).grown hgr5 (fun k hk _=>by injection hk with hk;subst hk;rw [HS.out.rcol];rfl)
   have HT5:=Hh (HS.out.tab.ext e5 rfl (fun x hx=>qBm (by intro e;subst e;cases hx)))
   have HL5:=Hh (HS.out.less.ext e5 rfl rfl rfl (fun _ _=>rfl))
   have HR5:=Hh hrg5
   have HE5:=Hh e5
   have HLT:=Hh hlt
   have HLX:=Hh hlx
   have HP2:=Hh hp2
   have c0:=ce0 HL5.out.own
   have HU:=Hh (qG8 HT5.out t1 (by rw [t2];exact hdk) n hsm hino (by omega))
   have HSN:=Hh (show qAg d.t (v++[(x,n)])=_ from (qGG v x n d.t).trans (qB9 hino))
   simp only [mkS] at hen
   clear hrg5 hgr5 hlt hlx hfx hp2 e5 t1 t2 hino hlk hsm hdk hq
   go_wp2_with (go_at_call 119;refine HU.out.mono ?_;rintro ev w6 ⟨rfl,c6,he6,ht6⟩)
   have hr5:RangeAt Tryz.prog 9 qLE w6 (fm k) r e.f.length (fileAt e.f) (fun y=>left y&&!decide (y=x)) cnt' :=
    HR5.out.of_blocks (he6.keep _ HR5.out.at_.lt (by rw [HS.out.fcol];rfl)).1 (he6.keep _ HR5.out.lt (by rw [HS.out.rcol];rfl)).1
   refine ⟨⟨fun y=>left y&&!decide (y=x),cnt',c6,v++[(x,n)],Hh ⟨?_,HL5.out.ext he6 rfl rfl rfl (fun _ _=>rfl),by rw [HSN.out];exact ht6,hr5,?_,he6.col HR5.out.lt HS.out.rcol rfl,he6.col HR5.out.at_.lt HS.out.fcol rfl⟩⟩,?_⟩
   ·exact (HS.out.ext.then HE5.out (qAE rfl)).then he6 (fun x hx=>by cases x<;>first | rfl | (cases hx))
   ·have:=HP2.out
    rw [List.append_assoc]
    exact this
   ·rw [hr5.left_eq,hm0];exact HLT.out
end
end Go.Proofs.YtceklhjomhjipaaGreatDoor
namespace Go.Proofs.YtceklhjomhjipaaGreatDoor
open Go.RowKit Go.Maps Go.Sort Go.Shelf Stl
def qDx:Col→Bool:=fun y=>qQX y||decide (y=.free)
theorem qD8:∀ x,qDx x=false→qDz x=false:=fun x hx=>by cases x<;>first | rfl | (cases hx)
theorem qPP:∀ x,qDx x=false→S0 x=false:=fun _ _=>rfl
theorem qME:∀ x,qDz x=false→qFt x=false:=fun x hx=>by cases x<;>first | rfl | (cases hx)
structure qAS (s:Sto):Prop where
 ok:qDY s
 good:DirsGood s.d
 room:s.d.t.l.length≤900000
theorem qEU {l:List (List UInt8)} (h:Rise l):l.Nodup:=List.Pairwise.imp (R:=(·<·)) (S:=(·≠·)) (fun {a b} h (e:a=b)=>Stl.blt_irrefl a (e▸h)) h
theorem qD9 {α:Type}:∀ {a b:List α},a.Nodup→(∀ x∈a,x∈b)→a.length≤b.length
 | [],_,_,_=>zx _
 | x::r,b,hp,h=>by
  obtain ⟨h1,h2⟩:=List.nodup_cons.1 hp
  obtain ⟨l,m,rfl⟩:=List.append_of_mem (h x (by simp))
  have:=qD9 (a:=r) (b:=l++m) h2 (fun y hy=>by
   have:=h y (by simp [hy])
   simp only [zX,zY] at this ⊢
   rcases this with h3 | h3 | h3
   ·exact .inl h3
   ·exact absurd (h3▸hy) h1
   ·exact .inr h3)
  simp at this ⊢
  omega
section
variable {w w2:World} {c c2:Nat→Col} {b:Nat} {s:Sto} {bd:Nat} {A:Option Addr} {cap:Nat} {zs:List PkX} {R:Option Addr} {rc tp:Nat}
theorem StoX.redirs (h:StoX w c b s bd A cap zs R rc tp) (e:Ext w w2 c c2 qDz) {d':Stl.Dirs} (hd:DirsAt w2 c2 bd d'):StoX w2 c2 b { s with d:=d' } bd A cap zs R rc tp :=
 ⟨(e.kept h.own h.col rfl).1,(e.kept h.own h.col rfl).2,hd,h.packs.ext e rfl,h.eq,fun x hx=>⟨(h.ro x hx).1,(h.ro x hx).2.ext e rfl⟩,h.roots.ext e rfl⟩
theorem StoX.relist (h:StoX w c b s bd A cap zs R rc tp) (e:Ext w w2 c c2 (S1 .stoL)) {A':Option Addr} {cap':Nat} {zs':List PkX} (hr:RowAt w2 c2 .stoL 93 3 (.slice A' zs'.length cap') zs'.length (zs'.flatMap qA6)) (hro:∀ x∈zs',x.p.refs.length≤x.cap∧RoStrs w2 c2 x.a x.p.refs) :
  StoX (w2.setCell ⟨b,1,none⟩ (.slice A' zs'.length cap')) c2 b { s with l:=zs'.map (·.p) } bd A' cap' zs' R rc tp∧Ext w2 (w2.setCell ⟨b,1,none⟩ (.slice A' zs'.length cap')) c2 c2 (S1 .sto):=by
 have hb:=e.kept h.own h.col rfl
 obtain ⟨s1,s2⟩:=Ext.cell hb.1 hb.2 1 (.slice A' zs'.length cap')
 refine ⟨⟨by simpa using s1,hb.2,(h.dirs.ext e rfl (fun x hx=>qBm (by intro e;subst e;cases hx))).ext s2 rfl (fun x hx=>qBm (by intro e;subst e;cases hx)),hr.ext s2 rfl,rfl,fun x hx=>⟨(hro x hx).1,(hro x hx).2.ext s2 rfl⟩,(h.roots.ext e rfl).ext s2 rfl⟩,s2⟩
theorem StoX.reroots (h:StoX w c b s bd A cap zs R rc tp) (e:Ext w w2 c c2 (S1 .roots)) {R':Option Addr} {rc':Nat} {roots':List (List UInt8)} (hr:RowAt w2 c2 .roots 9 1 (.slice R' roots'.length rc') roots'.length (roots'.map encStr)) :
  StoX (w2.setCell ⟨b,2,none⟩ (.slice R' roots'.length rc')) c2 b { s with roots:=roots' } bd A cap zs R' rc' tp∧Ext w2 (w2.setCell ⟨b,2,none⟩ (.slice R' roots'.length rc')) c2 c2 (S1 .sto):=by
 have hb:=e.kept h.own h.col rfl
 obtain ⟨s1,s2⟩:=Ext.cell hb.1 hb.2 2 (.slice R' roots'.length rc')
 refine ⟨⟨by simpa using s1,hb.2,(h.dirs.ext e rfl (fun x hx=>qBm (by intro e;subst e;cases hx))).ext s2 rfl (fun x hx=>qBm (by intro e;subst e;cases hx)),(h.packs.ext e rfl).ext s2 rfl,h.eq,fun x hx=>⟨(h.ro x hx).1,((h.ro x hx).2.ext e rfl).ext s2 rfl⟩,hr.ext s2 rfl⟩,s2⟩
theorem StoX.few (h:StoX w c b s bd A cap zs R rc tp) (hs:qDY s):zs.length≤40:=by
 rw [h.len];exact hs.pks.many
theorem StoX.fewRefs (h:StoX w c b s bd A cap zs R rc tp) (hs:qDY s):∀ x∈zs,x.p.refs.length≤20:=fun x hx=>hs.pks.few x.p (by rw [← h.eq];exact ze.2 ⟨x,hx,rfl⟩)
end
def ChPost (p:Nat→Addr) (w:World) (c:Nat→Col) (b tp:Nat) (r:Except Nat (List UInt8×Sto)) (ev:Ending) (w':World):Prop :=
 ∃ (a:ByteArray) (er:Value) (c2:Nat→Col),ev=.returned (.tuple #[.string a,er])∧Ext w w' c c2 qDx ∧
  match r with
  | .error cd=>er=qAB p cd∧cd≠0
  | .ok q=>er=.nilIface∧a=⟨q.1.toArray⟩∧StoAt w' c2 b q.2 tp
theorem qCt {s:Sto} (hs:qDY s):s.roots.length≤40:=zr (qD9 (qEU hs.rise) hs.roots) (by rw [zT];exact hs.pks.many)
end Go.Proofs.YtceklhjomhjipaaGreatDoor
namespace Go.Proofs.YtceklhjomhjipaaGreatDoor
open Go.RowKit Go.Sort Go.Shelf Stl
def qOd (p:Nat→Addr) (w:World) (c:Nat→Col) (r:Except Nat Nd) (ev:Ending) (w':World):Prop:=Below w.heap.size w w'∧qDu p (fun b=>c b=.ro) w r ev w'
theorem qMK {d:Stl.Dirs} (h:DirsGood d) {k:Nat} {e:Ent} (he:qAi d.l k=some e):k≤1000000:=by
 obtain ⟨h1,h2⟩:=qA5 he
 have:=h.ok.next e h1
 have:=h.next
 omega
section
variable {w:World} {A:Option Addr} {zs:List PkX} {c:Nat→Col} {b:Nat} {s:Sto} {bd:Nat} {cap:Nat} {R:Option Addr} {rc tp:Nat} {p:Nat→Addr}
theorem qO1 (h:StoX w c b s bd A cap zs R rc tp) (hg:qAS s) (hE:Env w c p) (name:List UInt8) :
  Calls Tryz.prog 90 #[.pointer (some ⟨b,0,none⟩),.string ⟨name.toArray⟩] w (qOd p w c (s.tree name)):=by
 have hfew:=h.few hg.ok
 have H:=Hh h
 have HG:=Hh hg
 have HE:=Hh hE
 obtain ⟨res,hres⟩:∃ res,res=s.tree name:=⟨_,rfl⟩
 rw [← hres]
 unfold Sto.tree at hres
 have hb1:Below w.heap.size w (w.alloc (.cells #[.string ⟨#[]⟩,.string ⟨#[]⟩,.bool false,.slice none 0 0] 114)):=(zB _ w).alloc (zq _) _
 have HB1:=Hh hb1
 have HBX:=Hh (zK1 w (.cells #[.string ⟨#[]⟩,.string ⟨#[]⟩,.bool false,.slice none 0 0] 114))
 have HFD:=Hh (qDm (h.below hb1) (by omega) name)
 clear h hg hE hb1
 go_enter Tryz.func90,Tryz.ntmps90
 cases hf:s.find name with
 | none =>
  rw [hf] at hres
  have HRS:=Hh (show res=.error 6 from hres)
  have HF:=Hh hf
  clear hf hres
  go_upto_region 3 with (go_at_call 68;refine HFD.out.mono ?_;rintro ev w2 ⟨⟨i,rfl,hi⟩,hb2⟩;have hneg:=(hi.none_ H.out.eq).1 HF.out;have hbx2:=(hb2.block _ (qAa HBX.out)).trans HBX.out;have HB2:=Hh (HB1.out.trans (hb2.mono HB1.out.size));have HBX2:=Hh hbx2;clear hb2 hi hbx2)
  have hg2:=((HE.out.errs.later HB2.out).cell 6 (by omega) (by omega))
  have HGL:=Hh (lt_of_cell (HE.out.errs.cell 6 (by omega) (by omega)))
  have HE6:=Hh (qAc p (c:=6) (by omega))
  rw [HE6.out] at hg2
  have hgne:w.heap.size≠7:=by have:=HGL.out;simp [qCq] at this;omega
  have hgne':7≠w.heap.size:=hgne.symm
  have hg3:w2.cell? ⟨7,0,none⟩=some (.iface 377 (.pointer (some (p 6)))):=hg2
  have z0:=ce0 HBX2.out
  have z1:=ce1 HBX2.out
  have z2:=ce2 HBX2.out
  have z3:=ce3 HBX2.out
  have f0:w2.frozen? ⟨w.heap.size,0,none⟩=false:=qAb HBX2.out 0
  have f1:w2.frozen? ⟨w.heap.size,1,none⟩=false:=qAb HBX2.out 1
  have f2:w2.frozen? ⟨w.heap.size,2,none⟩=false:=qAb HBX2.out 2
  have f3:w2.frozen? ⟨w.heap.size,3,none⟩=false:=qAb HBX2.out 3
  clear hg2
  go_region
  have HF:=Hh (show ((((w2.setCell ⟨w.heap.size,0,none⟩ (.string ⟨#[]⟩)).setCell ⟨w.heap.size,1,none⟩ (.string ⟨#[]⟩)).setCell ⟨w.heap.size,2,none⟩ (.bool false)).setCell ⟨w.heap.size,3,none⟩ (.slice none 0 0)).drew.heap[w.heap.size]?=some (.cells #[.string ⟨#[]⟩,.string ⟨#[]⟩,.bool false,.slice none 0 0] 114 (0,0)) from qAd (qAd (qAd (qAd HBX2.out 0 (.string ⟨#[]⟩)) 1 (.string ⟨#[]⟩)) 2 (.bool false)) 3 (.slice none 0 0))
  have HBF:=Hh (((((HB2.out.setCell (p:=⟨w.heap.size,0,none⟩) (zq _) (.string ⟨#[]⟩)).setCell (p:=⟨w.heap.size,1,none⟩) (zq _) (.string ⟨#[]⟩)).setCell (p:=⟨w.heap.size,2,none⟩) (zq _) (.bool false)).setCell (p:=⟨w.heap.size,3,none⟩) (zq _) (.slice none 0 0)).drew)
  clear z0 z1 z2 z3 f0 f1 f2 f3 hgne hgne' hg3
  go_wp2_with fail
  generalize ((((w2.setCell ⟨w.heap.size,0,none⟩ (.string ⟨#[]⟩)).setCell ⟨w.heap.size,1,none⟩ (.string ⟨#[]⟩)).setCell ⟨w.heap.size,2,none⟩ (.bool false)).setCell ⟨w.heap.size,3,none⟩ (.slice none 0 0)).drew=w9 at *
  have r0:=ce0 HF.out
  have r1:=ce1 HF.out
  have r2:=ce2 HF.out
  have r3:=ce3 HF.out
  refine zH1 (v:=.tuple #[.agg #[.string ⟨#[]⟩,.string ⟨#[]⟩,.bool false,.slice none 0 0],.iface 377 (.pointer (some (p 6)))]) ?_ rfl ⟨HBF.out,?_⟩
  ·simp [results,Tryz.results90,go_sem,r0,r1,r2,r3]
  ·rw [HRS.out]
   exact ⟨_,_,_,_,_,_,_,rfl,HE6.out.symm,by decide⟩
 | some pk =>
  rw [hf] at hres
  have HRS:=Hh (show res=s.d.get pk.k from hres)
  have HF:=Hh hf
  have hpm:∃ e,qAi s.d.l pk.k=some e:=by
   have h1:pk∈s.l:=(qCs hf).1
   have h2:pk.k∈s.d.l.map (·.k):=by rw [← HG.out.ok.ks];exact ze.2 ⟨pk,h1,rfl⟩
   obtain ⟨e,he,hk⟩:=ze.1 h2
   exact ⟨e,hk▸qAt HG.out.ok.dirs.keys he⟩
  obtain ⟨e,he⟩:=hpm
  have HKB:=Hh (qMK HG.out.good he)
  have HEN:=Hh he
  clear hf hres he
  go_upto_region 4 with (go_at_call 68;refine HFD.out.mono ?_;rintro ev w2 ⟨⟨i,rfl,hi⟩,hb2⟩;obtain ⟨ki,hki,rfl,hpk⟩:=hi.some_ H.out.eq HG.out.ok.pks.names HF.out;have HPK:=Hh hpk;have hbx2:=(hb2.block _ (qAa HBX.out)).trans HBX.out;have HB2:=Hh (HB1.out.trans (hb2.mono HB1.out.size));have HBX2:=Hh hbx2;clear hb2 hi hbx2 hpk)
  obtain ⟨c',hc'⟩:∃ c':Nat→Col,c'=fun k=>if k<w.heap.size then c k else .free:=⟨_,rfl⟩
  have HCO:=Hh (show ∀ k,c' k=.ro→c k=.ro∧k<w.heap.size from fun k hk=>by
   rw [hc'] at hk
   have hk:(if k<w.heap.size then c k else Col.free)=.ro:=hk
   by_cases hl:k<w.heap.size
   ·rw [zM1 hl] at hk;exact ⟨hk,hl⟩
   ·rw [zL1 hl] at hk;cases hk)
  have HX2:=Hh (H.out.ext (show Ext w w2 c c' S0 from (Ext.of_below HB2.out c S0).recolor fun k hk _=>by rw [hc'];exact zM1 hk) rfl (fun _ _=>rfl))
  clear hc'
  obtain ⟨g,hA,hgl,s0,s1,s2⟩:=HX2.out.kept.at hki
  subst hA
  rw [HPK.out] at s2
  clear s0 s1
  have c0:=ce0 HX2.out.own
  have c1:=ce1 HX2.out.own
  have k1:(ki:Int)<(zs.length:Int):=by omega
  have k2:(0:Int)≤(ki:Int):=by omega
  have HGT:=Hh (fun (W:World) (hb:Below w2.heap.size w2 W)=>qRf (p:=p) (HX2.out.below hb).dirs HG.out.good pk.k HKB.out (HE.out.errs.later (HB2.out.trans (hb.mono HB2.out.size))) HEN.out)
  have HDR:=Hh (zB w2.heap.size w2).drew
  have hlx2:=qAa HBX2.out
  generalize pk.k=kq at *
  go_region_law
   (first
    | (go_simp;go_at_call 56;refine (HGT.out _ (zB _ _)).mono ?_;rintro ev w3 ⟨hb3,a0,a1,a2,A5,m5,cp5,er,rfl,hpost⟩;have HPO:=Hh hpost;have HB3:=Hh hb3;have hbx3:=(hb3.block _ hlx2).trans HBX2.out;have HBX3:=Hh hbx3;have z0:w3.cell? ⟨w.heap.size,0,none⟩=some (.string ⟨#[]⟩):=zJ1 w3 _ 0 _ _ _ hbx3;have z1:w3.cell? ⟨w.heap.size,1,none⟩=some (.string ⟨#[]⟩):=zJ1 w3 _ 1 _ _ _ hbx3;have z2:w3.cell? ⟨w.heap.size,2,none⟩=some (.bool false):=zJ1 w3 _ 2 _ _ _ hbx3;have z3:w3.cell? ⟨w.heap.size,3,none⟩=some (.slice none 0 0):=zJ1 w3 _ 3 _ _ _ hbx3;have f0:w3.frozen? ⟨w.heap.size,0,none⟩=false:=qAb hbx3 0;have f1:w3.frozen? ⟨w.heap.size,1,none⟩=false:=qAb hbx3 1;have f2:w3.frozen? ⟨w.heap.size,2,none⟩=false:=qAb hbx3 2;have f3:w3.frozen? ⟨w.heap.size,3,none⟩=false:=qAb hbx3 3;clear hpost hb3 hbx3)
    | (go_simp;go_at_call 56;refine (HGT.out _ HDR.out).mono ?_;rintro ev w3 ⟨hb3',a0,a1,a2,A5,m5,cp5,er,rfl,hpost⟩;have hb3:Below w2.heap.size w2 w3:=HDR.out.trans hb3';clear hb3';have HPO:=Hh hpost;have HB3:=Hh hb3;have hbx3:=(hb3.block _ hlx2).trans HBX2.out;have HBX3:=Hh hbx3;have z0:w3.cell? ⟨w.heap.size,0,none⟩=some (.string ⟨#[]⟩):=zJ1 w3 _ 0 _ _ _ hbx3;have z1:w3.cell? ⟨w.heap.size,1,none⟩=some (.string ⟨#[]⟩):=zJ1 w3 _ 1 _ _ _ hbx3;have z2:w3.cell? ⟨w.heap.size,2,none⟩=some (.bool false):=zJ1 w3 _ 2 _ _ _ hbx3;have z3:w3.cell? ⟨w.heap.size,3,none⟩=some (.slice none 0 0):=zJ1 w3 _ 3 _ _ _ hbx3;have f0:w3.frozen? ⟨w.heap.size,0,none⟩=false:=qAb hbx3 0;have f1:w3.frozen? ⟨w.heap.size,1,none⟩=false:=qAb hbx3 1;have f2:w3.frozen? ⟨w.heap.size,2,none⟩=false:=qAb hbx3 2;have f3:w3.frozen? ⟨w.heap.size,3,none⟩=false:=qAb hbx3 3;clear hpost hb3 hbx3)
    | fail)
  all_goals
   have hpo:=HPO.out
   have HBW:=Hh (HB2.out.trans (HB3.out.mono HB2.out.size))
   have HF:=Hh (show ((((w3.setCell ⟨w.heap.size,0,none⟩ (.string a0)).setCell ⟨w.heap.size,1,none⟩ (.string a1)).setCell ⟨w.heap.size,2,none⟩ (.bool a2)).setCell ⟨w.heap.size,3,none⟩ (.slice A5 m5 cp5)).heap[w.heap.size]?=some (.cells #[(.string a0),(.string a1),(.bool a2),(.slice A5 m5 cp5)] 114 (0,0)) from qAd (qAd (qAd (qAd HBX3.out 0 (.string a0)) 1 (.string a1)) 2 (.bool a2)) 3 (.slice A5 m5 cp5))
   have HBF:=Hh ((((HBW.out.setCell (p:=⟨w.heap.size,0,none⟩) (zq _) (.string a0)).setCell (p:=⟨w.heap.size,1,none⟩) (zq _) (.string a1)).setCell (p:=⟨w.heap.size,2,none⟩) (zq _) (.bool a2)).setCell (p:=⟨w.heap.size,3,none⟩) (zq _) (.slice A5 m5 cp5))
   have HFP:=Hh (show (match s.d.get kq with
    | .ok y=>er=.nilIface∧NodeP (fun b=>c b=.ro∨w.heap.size≤b) ((((w3.setCell ⟨w.heap.size,0,none⟩ (.string a0)).setCell ⟨w.heap.size,1,none⟩ (.string a1)).setCell ⟨w.heap.size,2,none⟩ (.bool a2)).setCell ⟨w.heap.size,3,none⟩ (.slice A5 m5 cp5)) y [.string a0,.string a1,.bool a2,.slice A5 m5 cp5]
    | .error cd=>er=qAB p cd∧cd≠0) from by
    revert hpo
    cases s.d.get kq with
    | error cd=>exact fun h=>h
    | ok y =>
     rintro ⟨h1,h2⟩
     refine ⟨h1,?_⟩
     have h3:=NodeP.go (zq w3.heap.size) (fun k hk hp=>⟨rfl,(show (c k=.ro∨w.heap.size≤k)∧k≠w.heap.size from by
      rcases hp with hp | hp
      ·have h4:=HCO.out k hp
       exact ⟨.inl h4.1,by omega⟩
      ·have h4:w2.heap.size≤k:=hp
       exact ⟨.inr (by omega),by omega⟩)⟩) _ _ h2
     exact NodeP.go (zq _) (fun k _ hp=>⟨rfl,hp.1⟩) _ _ (NodeP.set4 h3 (fun k hk=>hk.2)))
   clear z0 z1 z2 z3 f0 f1 f2 f3 hpo HPO c0 c1 s2
   go_wp2_with fail
   generalize ((((w3.setCell ⟨w.heap.size,0,none⟩ (.string a0)).setCell ⟨w.heap.size,1,none⟩ (.string a1)).setCell ⟨w.heap.size,2,none⟩ (.bool a2)).setCell ⟨w.heap.size,3,none⟩ (.slice A5 m5 cp5))=wz at *
   have r0:=ce0 HF.out
   have r1:=ce1 HF.out
   have r2:=ce2 HF.out
   have r3:=ce3 HF.out
   refine zH1 (v:=.tuple #[.agg #[(.string a0),(.string a1),(.bool a2),(.slice A5 m5 cp5)],er]) ?_ rfl ⟨HBF.out,?_⟩
   ·simp [results,Tryz.results90,go_sem,r0,r1,r2,r3]
   ·rw [HRS.out]
    exact ⟨_,_,_,_,_,_,_,rfl,HFP.out⟩
end
end Go.Proofs.YtceklhjomhjipaaGreatDoor
namespace Go.Proofs.YtceklhjomhjipaaGreatDoor
open Go.RowKit Stl
def mkK (x:List UInt8×Bool):Value:=.agg #[.string ⟨x.1.toArray⟩,.bool x.2]
def qQV (x:List UInt8×Bool):Lit:=.string (keyBytes [.string x.1,.bool x.2])
theorem qM1:laidOutB Tryz.prog=true:=by kernel_rfl
theorem qPv:(306:TypeId)<Tryz.prog.types.size:=of_decide_eq_true (by kernel_rfl)
theorem qOC:(match Tryz.prog.underlying 306 with | some (.array _ _) | some (.struct _)=>true | _=>false)=true:=by kernel_rfl
theorem qKm:WideMaps.KeyLaw Tryz.prog 306:=deep_law_laid qM1 (m:=2) (by omega) qPv (by kernel_rfl) qOC
theorem qMx:Tryz.prog.keyType 306=true:=by kernel_rfl
theorem qL3:Tryz.prog.cellsOf 306=2:=by kernel_rfl
theorem qQl:Tryz.prog.cellsOf 9=1:=by kernel_rfl
theorem qQg:Tryz.prog.cellsOf 4=1:=by kernel_rfl
theorem qMA:∃ n,Tryz.prog.types.size=n+1:=⟨Tryz.prog.types.size-1,by kernel_rfl⟩
theorem qJZ (x:List UInt8×Bool) (hx:x.1.length≤maxLen):keyOf Tryz.prog 306 (mkK x)=some (qQV x):=by
 obtain ⟨s,e⟩:=x
 obtain ⟨n,hn⟩:=qMA
 have hsz:ByteArray.size ⟨s.toArray⟩≤maxLen:=hx
 unfold keyOf
 rw [Tryz.underlying306]
 simp only [mkK,qQV,qMx,hn]
 simp [Value.formed,Tryz.underlying306,qL3,Program.keyLits,qQl,qQg,Tryz.underlying9,Tryz.underlying4,hsz,Value.cells]
abbrev qOM:={ x:List UInt8×Bool // x.1.length≤maxLen }
def mkT (x:qOM):Value:=mkK x.1
def qQS (x:qOM):Lit:=qQV x.1
theorem qOG (a b:qOM) (h:qQS a=qQS b):a=b:=by
 have h1:=qJZ a.1 a.2
 have h2:=qJZ b.1 b.2
 rw [show qQV b.1=qQV a.1 from h.symm] at h2
 have h3:=qKm.inj h1 h2
 obtain ⟨⟨s,e⟩,ha⟩:=a
 obtain ⟨⟨s',e'⟩,hb⟩:=b
 simp only [mkK,Value.agg.injEq,Array.mk.injEq,zD,Value.string.injEq,ByteArray.mk.injEq,Value.bool.injEq,and_true] at h3
 obtain ⟨rfl,rfl⟩:=h3
 rfl
theorem okK:qEX Tryz.prog 306 mkT qQS (fun _=>True):=⟨Maps.Keyed.of_law qKm,fun x _=>qJZ x.1 x.2,qOG⟩
end Go.Proofs.YtceklhjomhjipaaGreatDoor
namespace Stl
def keyOf (t:Tab) (n:Nat):Option (Bytes×Bool):=match t.read n with | .ok s=>(t.at_ n).map fun x=>(s,x.exec) | .error _=>none
def qBD (t:Tab) (l:List Nat) (key:Bytes×Bool):Option Nat:=l.find? fun n=>keyOf t n==some key
theorem qDa (t:Tab) (l:List Nat) (n:Nat) (key:Bytes×Bool):qBD t (l++[n]) key=match qBD t l key with | some m=>some m | none=>if keyOf t n=some key then some n else none:=by
 unfold qBD
 rw [List.find?_append]
 cases l.find? fun n=>keyOf t n==some key with
 | some m=>rfl
 | none =>
  simp only [Option.none_or,List.find?_cons,List.find?_nil]
  by_cases h:keyOf t n=some key
  ·simp [h]
  ·rw [zL1 h,(show (keyOf t n==some key)=false by simpa using h)]
theorem qKh {t:Tab} {n:Nat} {s:Bytes} {x:Ino} (h1:t.read n=.ok s) (h2:t.at_ n=some x):keyOf t n=some (s,x.exec):=by
 unfold keyOf
 rw [h1,h2]
 rfl
theorem qPa {t:Tab} {n:Nat} {c:Nat} (h1:t.read n=.error c):keyOf t n=none:=by
 unfold keyOf
 rw [h1]
theorem qEs {t:Tab} {n:Nat} {key:Bytes×Bool} (h:keyOf t n=some key):∃ x,t.read n=.ok key.1∧t.at_ n=some x∧x.exec=key.2:=by
 unfold keyOf at h
 cases h1:t.read n with
 | error c=>rw [h1] at h;cases h
 | ok s =>
  rw [h1] at h
  cases h2:t.at_ n with
  | none=>rw [h2] at h;cases h
  | some x =>
   rw [h2] at h
   cases h
   exact ⟨x,rfl,rfl,rfl⟩
theorem qER {t:Tab} {n:Nat}:n∈t.all↔(t.at_ n).isSome=true:=by
 unfold Tab.all
 rw [zZ,List.mem_range]
 constructor
 ·exact fun h=>h.2
 ·intro h
  obtain ⟨x,hx⟩:=zz.1 h
  exact ⟨qDR hx,h⟩
theorem qIj (t:Tab):t.all.Pairwise (·<·):=List.Pairwise.filter _ List.pairwise_lt_range
theorem qDn:∀ {l:List Nat} {p:Nat→Bool} {m:Nat},l.Pairwise (·<·)→(l.find? p=some m↔m∈l∧p m=true∧∀ k∈l,k<m→p k=false)
 | [],p,m,_=>by simp
 | a::r,p,m,h=>by
  rw [zj] at h
  rw [List.find?_cons]
  cases ha:p a
  ·simp only
   rw [qDn h.2]
   constructor
   ·rintro ⟨h1,h2,h3⟩
    refine ⟨by simp [h1],h2,fun k hk hkm=>?_⟩
    rcases zY.1 hk with rfl | hk
    ·exact ha
    ·exact h3 k hk hkm
   ·rintro ⟨h1,h2,h3⟩
    refine ⟨?_,h2,fun k hk=>h3 k (by simp [hk])⟩
    rcases zY.1 h1 with rfl | h1
    ·rw [ha] at h2;cases h2
    ·exact h1
  ·simp only [zB1]
   constructor
   ·rintro rfl
    refine ⟨by simp,ha,fun k hk hkm=>?_⟩
    rcases zY.1 hk with rfl | hk
    ·omega
    ·have:=h.1 k hk
     omega
   ·rintro ⟨h1,h2,h3⟩
    rcases zY.1 h1 with rfl | h1
    ·rfl
    ·have:=h3 a (by simp) (h.1 m h1)
     rw [ha] at this
     cases this
theorem qHa {t:Tab} {n m:Nat} {key:Bytes×Bool} (hk:keyOf t n=some key):t.lesser n=some m↔m<n∧qBD t t.all key=some m:=by
 obtain ⟨x,h1,h2,h3⟩:=qEs hk
 have hp:∀ k,(match t.read k with | .error _=>false | .ok r=>r==key.1&&((t.at_ k).map (·.exec))==((t.at_ n).map (·.exec)))=(keyOf t k==some key):=by
  intro k
  unfold keyOf
  cases h4:t.read k with
  | error c=>rfl
  | ok s =>
   simp only [h2,zA1,h3]
   cases h5:t.at_ k with
   | none =>
    simp [Tab.read,h5] at h4
   | some y =>
    simp only [zA1]
    rw [Bool.eq_iff_iff]
    simp only [zC,beq_iff_eq,zB1]
    obtain ⟨k1,k2⟩:=key
    simp
 have e:t.lesser n=(List.range n).find? fun k=>keyOf t k==some key:=by
  unfold Tab.lesser
  rw [h1]
  simp only
  congr 1
  funext k
  exact hp k
 rw [e,qDn List.pairwise_lt_range]
 unfold qBD
 rw [qDn (qIj t)]
 simp only [beq_iff_eq,List.mem_range,qER]
 constructor
 ·rintro ⟨a,b,c⟩
  obtain ⟨y,_,hy,_⟩:=qEs b
  exact ⟨a,by rw [hy];rfl,b,fun k _ hkm=>c k (by omega) hkm⟩
 ·rintro ⟨a,b,c,d⟩
  refine ⟨a,c,fun k hk hkm=>?_⟩
  cases hq:keyOf t k with
  | none=>simp
  | some z =>
   obtain ⟨y,_,hy,_⟩:=qEs hq
   have:=d k (by rw [hy];rfl) hkm
   rw [hq] at this
   simpa using this
theorem qLX {t:Tab} {n:Nat} {key:Bytes×Bool} (hk:keyOf t n=some key):∃ m,qBD t t.all key=some m∧m≤n:=by
 obtain ⟨x,_,hx,_⟩:=qEs hk
 have hn:n∈t.all:=qER.2 (by rw [hx];rfl)
 cases h:qBD t t.all key with
 | none =>
  have:=List.find?_eq_none.1 h n hn
  exact absurd (by rw [hk];simp) this
 | some m =>
  refine ⟨m,rfl,?_⟩
  obtain ⟨_,_,h3⟩:=(qDn (qIj t)).1 h
  rcases zv n m with h4 | h4
  ·have:=h3 n hn h4
   rw [hk] at this
   simp at this
  ·exact h4
theorem qKe {t:Tab} {n m:Nat} {key:Bytes×Bool} (hk:keyOf t n=some key) (hm:qBD t t.all key=some m) (h:¬ m<n):t.lesser n=none:=by
 cases hl:t.lesser n with
 | none=>rfl
 | some k =>
  obtain ⟨h1,h2⟩:=(qHa hk).1 hl
  rw [hm] at h2
  cases h2
  exact absurd h1 h
theorem qL7 {t:Tab} {n:Nat} {c:Nat} (h:t.read n=.error c):t.lesser n=none:=by
 unfold Tab.lesser
 rw [h]
end Stl
namespace Go.Proofs.YtceklhjomhjipaaGreatDoor
open Go.RowKit Go.Maps Go.Sort Go.Shelf Stl
theorem qF0 {w:World} {b n:Nat} {D:DataW Value} {f:Nat→Option Value} (h:w.ownsMap Tryz.prog 3 qCk b n D) (hM:MapIs qKE D f) {l:List Nat} (hs:l.Pairwise (·<·)) (hm:∀ k,k∈l↔(f k).isSome=true) {ss:List Int} (hp:ss.Perm (intKeys D)) :
  ss.mergeSort leI=l.map fun k:Nat=>(k:Int):=by
 obtain ⟨es,rfl,hpw,hk⟩:=h.entries okN.keyed
 have hk2:∀ p∈es,∃ x,p.1=.int .i64 x:=fun p hp=>by
  have hh:has (.map es) p.1=true:=by rw [has_eq];exact List.any_eq_true.2 ⟨p,hp,WideAt.sameKey_self (hk p hp)⟩
  obtain ⟨k,v,h1,_⟩:=hM.has_ _ hh
  exact ⟨(k:Int),h1⟩
 have hp2:(l.map fun k:Nat=>(k:Int)).Perm (intKeys (.map es)):=perm_intKeys hpw hk2 (List.pairwise_map.2 (hs.imp fun h e=>by omega)) (fun x=>by
  constructor
  ·intro hx
   obtain ⟨k,hk,rfl⟩:=ze.1 hx
   rw [show (Lit.int .i64 (k:Int))=qKE k from rfl,hM.has_eq]
   exact (hm k).1 hk
  ·intro hx
   obtain ⟨k,v,h1,h2⟩:=hM.has_ _ hx
   have e:x=(k:Int):=by simpa [qKE] using h1
   exact ze.2 ⟨k,(hm k).2 (by rw [h2];rfl),e.symm⟩)
 rw [mergeSort_of_perm_i (hp.trans hp2.symm)]
 exact List.mergeSort_of_pairwise (List.pairwise_map.2 (hs.imp fun h=>by simp;omega))
theorem qPT (m:Nat):AnyZI.SortsIn Tryz.prog Tryz.sortedI_ren Fence.wide m :=
 ⟨fun blk off cap ss W hH hblk hsz=>zI1.2 (AnyM.slices_Sort_int Tryz.sortI blk off cap ss W hH hblk hsz),
  fun p cap W=>zI1.2 (AnyM.slices_Sort_int_none Tryz.sortI p cap W)⟩
section
variable {w:World} {c:Nat→Col} {b:Nat} {T:Tab}
theorem qFC (h:TabAt w c b T) (hL:T.l.length≤1000000) :
  Calls Tryz.prog 53 #[.pointer (some ⟨b,0,none⟩)] w fun e w'=>∃ A cap,e=.returned (.slice A T.all.length cap)∧w'.ownsRow w.heap.size 3 1 (.slice A T.all.length cap) T.all.length (T.all.map qH4)∧Below w.heap.size w w':=by
 obtain ⟨bd,bs,bm,st,h⟩:=h
 have c2:=ce2 h.own
 obtain ⟨D0,hown,hMI⟩:=h.map
 have hsl:=hown.size_le
 have hbl:=hown.lt
 have hKS:=fun ss hp=>qF0 hown hMI (l:=T.all) (List.Pairwise.filter _ List.pairwise_lt_range) (fun k=>by
  unfold Tab.all
  rw [zZ,List.mem_range]
  have e:(qAF T st k).isSome=(T.at_ k).isSome:=by unfold qAF;cases T.at_ k<;>rfl
  rw [e]
  exact ⟨fun h=>h.2,fun h=>⟨by cases hx:T.at_ k with | none=>rw [hx] at h;cases h | some x=>exact qDR hx,h⟩⟩) (ss:=ss) hp
 have HKS:=Hh hKS
 clear h hKS
 refine (zI1 (n:=6)).1 ?_
 have hseq:SeqGives Fence.wide 2 Tryz.prog 160 #[.pointer (some ⟨w.heap.size,0,none⟩)] encZ (fun ss=>ss.Perm (intKeys D0)) (Maps.size D0) (w.alloc (.cells #[.map (some bm)] 84)) :=
  AnyZI.keys_gives (ρ:=Tryz.keysStat_ren) { Tryz.keysStat with } Fence.wide _ trivial rfl (by omega) w.heap.size bm T.l.length D0 _ (by simp) (by simp) (by
   obtain ⟨es,clock,hb,Ft,hs,hD⟩:=hown
   exact ⟨es,clock,(Below.heap_alloc _ _ bm hbl).trans hb,Ft,hs,hD⟩)
 have cK:∀ mb W,CallsIn Fence.wide 5 Tryz.prog 102 #[.map mb] W fun e w'=>e=.returned (.func (.func 160) #[] #[.pointer (some ⟨W.heap.size,0,none⟩)])∧w'=W.alloc (.cells #[.map mb] 84):=fun mb W=>AnyZI.keys_in Tryz.keysStat Fence.wide 5 trivial rfl mb W
 have cS:=AnyZI.sorted_in Tryz.sortedI Fence.wide 5 trivial trivial trivial trivial rfl (by omega) (qPT _) (enters_of Tryz.func159 (by kernel_rfl) rfl) 160 #[.pointer (some ⟨w.heap.size,0,none⟩)] trivial (enters_of Tryz.func160 (by kernel_rfl) rfl) _ _ (by unfold maxLen;omega) (by omega) _ hseq
 change CallsIn _ _ Tryz.prog 101 _ _ _ at cS
 have hfK:Fence.wide.fn 102:=trivial
 have hfS:Fence.wide.fn 101:=trivial
 refine callsIn_of_wp Tryz.func53 rfl trivial ?_ rfl
 simp only [Tryz.ntmps53,List.size_toArray,zQ,List.length_nil,Nat.reduceAdd,Nat.reduceSub,Array.replicate_succ,Array.replicate_zero,List.push_toArray,List.append_toArray,zi,zE]
 gi_wp2_with (first
  | (gi_at_call 102;refine (cK _ _).mono ?_;rintro e w' ⟨rfl,rfl⟩)
  | (gi_at_call 101;refine cS.mono ?_;rintro e w' ⟨v,ss,rfl,hS,hrow,hnil,hb⟩))
 go_ret
 have hks:=HKS.out ss hS
 have hlen:ss.length=T.all.length:=by
  have:=congrArg List.length hks
  simpa using this
 have e1:(ss.mergeSort (fun x y=>decide (x≤y))).map encZ=T.all.map qH4:=by
  rw [show ss.mergeSort (fun x y=>decide (x≤y))=_ from hks,zW]
  rfl
 rw [e1,hlen] at hrow
 obtain ⟨A,cap,rfl⟩:=Stl.owns_slice _ hrow
 exact ⟨A,cap,rfl,ownsRow_base_a hrow (by simp),((zB _ w).alloc (zq _) _).trans (hb.mono (by simp))⟩
end
end Go.Proofs.YtceklhjomhjipaaGreatDoor
