/- Lemmas. -/
import Derived.Test.YtbmkaekimccdgaaGreatDoorBm22
set_option maxHeartbeats 16000000
set_option maxRecDepth 1000000
set_option linter.all false
namespace Go.Proofs.YtbmkaekimccdgaaGreatDoor
open Go.RowKit Go.Sort Go.Shelf Stl
theorem qI5 {w:World}{base base':Nat}{e e':TypeId}{size size':Nat}{v v':Value}{n n':Nat}{xs xs':List Value}(h:w.ownsRow base e size v n xs)(h':w.ownsRow base' e' size' v' n' xs')(he:e≠e'):v.ownBlock=none∨v.ownBlock≠v'.ownBlock:=by
 rcases h.2 with ⟨rfl,_⟩ | ⟨g,cap,cur,rfl,_,hg,_⟩
 ·exact .inl rfl
 ·rcases h'.2 with ⟨rfl,_⟩ | ⟨g',cap',cur',rfl,_,hg',_⟩
  ·exact .inr (by simp[Value.ownBlock])
  ·refine .inr ?_;intro e2;simp only[Value.ownBlock,zB1] at e2;subst e2;rw[hg] at hg';injection hg' with hg'
   injection hg' with _ h2 _
   exact he h2
theorem jS {w:World}{base:Nat}{A:Option Addr}{cap:Nat}{l:List (List UInt8)}(h:w.ownsRow base 9 1 (.slice A l.length cap) l.length (l.map encStr)):Strs w (.slice A l.length cap) l:=by
 refine⟨A,cap,rfl,fun hn=>?_⟩
 rcases h.2 with ⟨e,h0⟩ | ⟨g,cp,cur,e,_,hg,_⟩
 ·exact absurd (zR.1 h0) hn
 ·injection e with e1 e2 e3
  subst e1 e3;refine⟨g,0,rfl,qA hg,fun j x hx=>?_⟩;have hj:=(zM.1 hx).1;rw[zv,h.cellAt j (by omega),zN,hx];rfl
section
variable {w w2:World}{A:Option Addr}{zs:List PkX}{c:Nat→Col}{b:Nat}{s:Sto}{bd:Nat}{cap:Nat}{R:Option Addr}{rc tp:Nat}
theorem qDA (h:StoX w c b s bd A cap zs R rc tp)(hz:zs.length≤1000000) :
  Calls Tryz.prog 121 #[.pointer (some ⟨b,0,none⟩)] w (dL (zs.map (·.p.name)) w):=by
 have H:=Hh h;have HK:=Hh h.kept;have c1:=ce1 h.own;clear h;obtain⟨i0,hi,hz0,hz1,hz2⟩:=pO;have Hi:=Hh hi;have Hz0:=Hh hz0;have Hz1:=Hh hz1;have Hz2:=Hh hz2;clear hi hz0 hz1 hz2;go_enter Tryz.func121,Tryz.ntmps121;go_upto_region 3 with fail;clear c1
 go_loopw [3,11] (fun v a wr=>∃ (j:Nat),a=.int .i64 j∧j≤zs.length∧Hg (Below w.heap.size w wr)∧Hg (wr.ownsRow w.heap.size 9 1 v j (((zs.take j).map (·.p.name)).map encStr))) (fun _ a _=>zs.length-(intOf a).toNat)
 case atStart=>exact⟨0,rfl,zw _,Hh (zB _ _),Hh (zF1 _ _ _ _)⟩
 case round =>
  obtain⟨j,rfl,hj,HB,HO⟩:=hrel;by_cases hjl:j<zs.length
  ·have i1:(j:Int)<(zs.length:Int):=by omega
   have i2:(0:Int)≤(j:Int):=by omega
   obtain⟨g,rfl,hg,s0,s1,s2⟩:=(HK.o.later HB.o).at hjl;have HTK:=Hh (show ((zs.take (j+1)).map (·.p.name)).map encStr=((zs.take j).map (·.p.name)).map encStr++[.string ⟨zs[j].p.name.toArray⟩] by
    rw[zn hjl,zU,zU];rfl)
   generalize zs[j]=y at *;have hb5:=(zB wr.heap.size wr).alloc (zo _) (.cells #[.string ⟨y.p.name.toArray⟩,.slice y.a y.p.refs.length y.cap,.int .i64 y.p.k] 150);have HY5:=Hh (zK1 wr (.cells #[.string ⟨y.p.name.toArray⟩,.slice y.a y.p.refs.length y.cap,.int .i64 y.p.k] 150));have HB5:=Hh (HB.o.trans (hb5.mono HB.o.size));have HO5:=Hh (HO.o.alloc (.cells #[.string ⟨y.p.name.toArray⟩,.slice y.a y.p.refs.length y.cap,.int .i64 y.p.k] 150));clear hb5;go_upto_region 5 with fail;clear s0 s1 s2;generalize wr.alloc (.cells #[.string ⟨y.p.name.toArray⟩,.slice y.a y.p.refs.length y.cap,.int .i64 y.p.k] 150)=w5 at *;have r0:=ce0 HY5.o;have HO6:=Hh (HO5.o.alloc (.cells #[.string ⟨y.p.name.toArray⟩] 9));have HB6:=Hh (HB5.o.alloc HB5.o.size (.cells #[.string ⟨y.p.name.toArray⟩] 9));go_wp2_with (at_builtin;refine Stl.wpList_app _ rfl _ _ 22 rfl w.heap.size 9 i0 (.string ByteArray.empty) 1 16 Tryz.underlying22 Hi.o Hz0.o Hz1.o Hz2.o rfl (by decide) u3 j _ rfl HO6.o (some ⟨w5.heap.size,0,none⟩) 1 1 [.string ⟨y.p.name.toArray⟩] rfl rfl (fun h=>by cases h) (jD _ _ _) (by simp[Value.oneCell']) (by unfold maxLen;omega) (by omega) (zq HB5.o.size (by simp)) ?_;intro A7 c7 w7 hown7 hgr7 hat7;have HO7:=Hh hown7;have HB7:=Hh (HB6.o.grown hgr7 HB6.o.size (fun k hk=>(HO6.o.lt k hk).1));clear hown7 hgr7 hat7);go_roundw
   case rel=>exact⟨j+1,by go_num,hjl,HB7,Hh (by rw[HTK.o];exact HO7.o)⟩
   case measure=>simp[intOf];omega
  ·have i1:¬ (j:Int)<(zs.length:Int):=by omega
   obtain rfl:j=zs.length:=by omega
   obtain⟨A3,c3,e3⟩:=Stl.owns_slice _ HO.o;subst e3;go_wp2;go_ret;have ho:=HO.o;rw[zk] at ho;refine⟨A3,c3,by rw[zT];rfl,?_,HB.o⟩;rw[zT];exact ho
structure qOT (w wr:World)(zs:List PkX)(j:Nat)(v:Value)(ys:List PX):Prop where
 below:Below w.heap.size w wr
 row:wr.ownsRow w.heap.size 260 6 v j (ys.flatMap uC)
 eq:ys.map (·.p)=(zs.take j).map (·.p)
 refs:∀ y∈ys,y.p.refs.length≤y.cap∧wr.ownsRow w.heap.size 9 1 (.slice y.a y.p.refs.length y.cap) y.p.refs.length (y.p.refs.map encStr)
 zero:∀ y∈ys,y.t0=⟨#[]⟩∧y.t1=⟨#[]⟩∧y.t2=false∧y.t3=none∧y.t4=0∧y.t5=0
def qOx (w:World)(l:List Pk)(e:Ending)(w':World):Prop:=∃ (A:Option Addr) (cap:Nat) (ys:List PX),e=.returned (.slice A ys.length cap)∧ys.length≤cap∧ys.map (·.p)=l∧w'.ownsRow w.heap.size 260 6 (.slice A ys.length cap) ys.length (ys.flatMap uC) ∧
 (∀ y∈ys,y.p.refs.length≤y.cap∧w'.ownsRow w.heap.size 9 1 (.slice y.a y.p.refs.length y.cap) y.p.refs.length (y.p.refs.map encStr))∧(∀ y∈ys,y.t0=⟨#[]⟩∧y.t1=⟨#[]⟩∧y.t2=false∧y.t3=none∧y.t4=0∧y.t5=0)∧Below w.heap.size w w'
theorem qLV:xX 260 (.agg #[.string ⟨#[]⟩,.slice none 0 0,.string ⟨#[]⟩,.string ⟨#[]⟩,.bool false,.slice none 0 0]) 6 104:=xQ (by kernel_rfl) rfl (by decide)
theorem yG {w:World}{base:Nat}{e:TypeId}{size:Nat}{A:Option Addr}{n m cap:Nat}{xs:List Value}(h:w.ownsRow base e size (.slice A m cap) n xs):n≤cap:=by
 rcases h.2 with ⟨e1,h0⟩ | ⟨g,cp,cur,e1,_,_,h4,_⟩
 ·omega
 ·injection e1 with _ _ e3
  omega
theorem qAm {w':World}{base cap:Nat}{ys:List PX}(hr:w'.ownsRow base 260 6 (.slice A ys.length cap) ys.length (ys.flatMap uC))(hs:∀ y∈ys,y.p.refs.length≤y.cap∧w'.ownsRow base 9 1 (.slice y.a y.p.refs.length y.cap) y.p.refs.length (y.p.refs.map encStr)):PacksAt w' A ys:=by
 refine⟨fun hn=>?_,fun y hy=>⟨(hs y hy).1,jS (hs y hy).2⟩⟩
 rcases hr.2 with ⟨e,h0⟩ | ⟨g,cp,cur,e,_,hg,_⟩
 ·exact absurd (zR.1 h0) hn
 ·injection e with e1 e2 e3
  subst e1 e3;refine⟨g,0,rfl,qA hg,fun j u hu=>?_⟩;have hj:=(zM.1 hu).1;rw[qBO] at hj;rw[zv,hr.cellAt j (by omega),hu]
theorem qF3 (h:StoX w c b s bd A cap zs R rc tp)(hz:zs.length≤1000000)(hrl:∀ x∈zs,x.p.refs.length≤1000000) :
  Calls Tryz.prog 114 #[.pointer (some ⟨b,0,none⟩)] w (qOx w s.l):=by
 have H:=Hh h;have HK:=Hh h.kept;have c1:=ce1 h.own;have HRL:=Hh hrl;clear h hrl;obtain⟨i0,hi,hz0,hz1,hz2⟩:=qLV.info;have Hi:=Hh hi;have Hz0:=Hh hz0;have Hz1:=Hh hz1;have Hz2:=Hh hz2;clear hi hz0 hz1 hz2;go_enter Tryz.func114,Tryz.ntmps114;go_upto_region 3 with fail;clear c1
 go_loopw [3,11] (fun v a wr=>∃ (j:Nat) (ys:List PX),a=.int .i64 j∧j≤zs.length∧Hg (qOT w wr zs j v ys)) (fun _ a _=>zs.length-(intOf a).toNat)
 case atStart=>exact⟨0,[],rfl,zw _,Hh ⟨zB _ _,zF1 _ _ _ _,rfl,by simp,by simp⟩⟩
 case round =>
  obtain⟨j,ys,rfl,hj,HS⟩:=hrel;by_cases hjl:j<zs.length
  ·have i1:(j:Int)<(zs.length:Int):=by omega
   have i2:(0:Int)≤(j:Int):=by omega
   obtain⟨g,rfl,hg,s0,s1,s2⟩:=(HK.o.later HS.o.below).at hjl;have HTK:=Hh (show (zs.take (j+1)).map (·.p)=(zs.take j).map (·.p)++[zs[j].p] by
    rw[zn hjl,zU];rfl)
   have HRO:=Hh (H.o.ro _ (zO hjl));have hyl:=HRL.o _ (zO hjl);generalize zs[j]=y at *;have hb5:=(zB wr.heap.size wr).alloc (zo _) (.cells #[.string ⟨y.p.name.toArray⟩,.slice y.a y.p.refs.length y.cap,.int .i64 y.p.k] 150);have HY5:=Hh (zK1 wr (.cells #[.string ⟨y.p.name.toArray⟩,.slice y.a y.p.refs.length y.cap,.int .i64 y.p.k] 150));have HB5:=Hh (HS.o.below.trans (hb5.mono HS.o.below.size));have HB55:=Hh hb5;have HO5:=Hh (HS.o.row.alloc (.cells #[.string ⟨y.p.name.toArray⟩,.slice y.a y.p.refs.length y.cap,.int .i64 y.p.k] 150));clear hb5;go_upto_region 5 with fail;clear s0 s1 s2;generalize wr.alloc (.cells #[.string ⟨y.p.name.toArray⟩,.slice y.a y.p.refs.length y.cap,.int .i64 y.p.k] 150)=w5 at *;have s0:=ce0 HY5.o;have s1:=ce1 HY5.o;have HCL:=Hh (show Calls Tryz.prog 69 #[.slice y.a y.p.refs.length y.cap] w5.drew _ from nT (((HRO.o.2.ext (Ext.of_below HB5.o c S0) rfl).strs y.cap).later (zB w5.heap.size w5).drew) hyl);have hlt5:=qA HY5.o;obtain⟨Ao,co,e3⟩:=Stl.owns_slice _ HO5.o;subst e3
   go_region_law
    (first
     | (refine Stl.step_app _ (by rfl) (.tmp 15) (.tmp 22) 206 (by rfl) w.heap.size 260 i0 _ 6 104 Tryz.underlying206 Hi.o Hz0.o Hz1.o Hz2.o rfl (by decide) (.slice Ao j co) j (ys.flatMap uC) (by rfl) HO7.o (some ⟨w6.heap.size,0,none⟩) 1 1 [.string ⟨y.p.name.toArray⟩,.slice A6 y.p.refs.length c6,.string ⟨#[]⟩,.string ⟨#[]⟩,.bool false,.slice none 0 0] (by rfl) (by simp) (fun h=>by cases h) (jD _ _ _) (by simp[Value.oneCell']) (by unfold maxLen;omega) (by omega) (zq HB6.o.size (by simp)) ?_;intro A8 c8 w8 hown8 hgr8 _;have HO8:=Hh hown8;have HG8:=Hh hgr8;clear hown8 hgr8)
     | (go_simp;go_at_call 69;refine HCL.o.mono ?_;rintro ev w6 ⟨A6,c6,rfl,hrow6,hb6'⟩;have hb6:Below w5.heap.size w5 w6:=⟨hb6'.os,hb6'.tape,hb6'.output,hb6'.size,hb6'.block⟩;clear hb6';have HR6:=Hh hrow6;have HB56:=Hh hb6;have HB6:=Hh (HB5.o.trans (hb6.mono HB5.o.size));have HO6:=Hh (HO5.o.kept (Below.toGrown hb6 none) (by cases Value.ownBlock (Value.slice Ao j co)<;>simp));have HO7:=Hh (HO6.o.alloc (.cells #[.string ⟨y.p.name.toArray⟩,.slice A6 y.p.refs.length c6,.string ⟨#[]⟩,.string ⟨#[]⟩,.bool false,.slice none 0 0] 260));have s0:=(hb6.cell (p:=⟨wr.heap.size,0,none⟩) hlt5).trans s0;have s1:=(hb6.cell (p:=⟨wr.heap.size,1,none⟩) hlt5).trans s1;clear hrow6 hb6)
     | fail)
   all_goals
    clear s0 s1;go_wp2;go_roundw
    case rel =>
     refine⟨j+1,ys++[⟨y.p,A6,c6,⟨#[]⟩,⟨#[]⟩,false,none,0,0⟩],by go_num,hjl,Hh ⟨?_,?_,?_,?_,?_⟩⟩
     ·exact(HB6.o.alloc HB6.o.size _).grown HG8.o (zq HB6.o.size (by simp)) (fun k hk=>(HO7.o.lt k hk).1)
     ·rw[List.flatMap_append];exact HO8.o
     ·rw[zU,HS.o.eq,HTK.o];rfl
     ·have keep:∀ {v:Value} {n:Nat} {xs:List Value},w6.ownsRow w.heap.size 9 1 v n xs→w8.ownsRow w.heap.size 9 1 v n xs:=fun hr=>(hr.alloc _).kept HG8.o (qI5 (hr.alloc _) HO7.o (by decide))
      intro z hz
      rcases zX.1 hz with hz | hz
      ·obtain⟨h1,h2⟩:=HS.o.refs z hz;exact⟨h1,keep ((h2.kept (Below.toGrown HB55.o none) (by cases Value.ownBlock (Value.slice z.a z.p.refs.length z.cap)<;>simp)).kept (Below.toGrown HB56.o none) (by cases Value.ownBlock (Value.slice z.a z.p.refs.length z.cap)<;>simp))⟩
      ·rw[zg.1 hz];exact⟨yG HR6.o,keep (HR6.o.mono HB5.o.size)⟩
     ·intro z hz
      rcases zX.1 hz with hz | hz
      ·exact HS.o.zero z hz
      ·rw[zg.1 hz];exact⟨rfl,rfl,rfl,rfl,rfl,rfl⟩
    case measure=>simp[intOf];omega
  ·have i1:¬ (j:Int)<(zs.length:Int):=by omega
   obtain rfl:j=zs.length:=by omega
   obtain⟨A3,c3,e3⟩:=Stl.owns_slice _ HS.o.row;subst e3;go_wp2;go_ret;have heq:=HS.o.eq;rw[zk] at heq;have hyl:ys.length=zs.length:=by have:=congrArg List.length heq;simpa using this
   refine⟨A3,c3,ys,by rw[hyl];rfl,by rw[hyl];exact yG HS.o.row,heq.trans H.o.eq,by rw[hyl];exact HS.o.row,HS.o.refs,HS.o.zero,HS.o.below⟩
end
section
variable {w:World}{c:Nat→Col}{b:Nat}{T:Tab}
structure CpSt (w w4 wr:World)(k0 c4 cr:Nat→Col)(T:Tab)(st:Nat→Nat)(bm bm' r:Nat)(left:Nat→Bool)(cnt:Nat)(st':Nat→Nat):Prop where
 below:Below w.heap.size w wr
 ext:Ext w4 wr c4 cr (fun y=>decide (y=.tabMap)||decide (y=.free))
 range:RangeAt Tryz.prog 3 dY wr bm r T.l.length (jT T st) left cnt
 map:gS wr bm' T.l.length (fun k=>if (T.at_ k).isSome=true∧left k=false then some (.pointer (some ⟨st' k,0,none⟩)) else none)
 stats:∀ k x,T.at_ k=some x→left k=false→InoAt wr cr (st' k) k x
 mcol:cr bm'=.tabMap
 rcol:cr r=.free
 old:∀ k,k<w.heap.size→cr k=k0 k
def CpIn (w:World)(k0:Nat→Col)(T:Tab)(wx:World)(b' bd' bs' bm':Nat)(c3:Nat→Col):Prop :=
 Below w.heap.size w wx∧(∀ k,k<w.heap.size→c3 k=k0 k)∧w.heap.size≤b'∧w.heap.size≤bm'∧wx.heap[b']?=some (.cells #[.pointer (some ⟨bd',0,none⟩),.pointer (some ⟨bs',0,none⟩),.map (some bm')] 85 (0,0))∧c3 b'=.tab∧DiskAt wx c3 bd' T.disk∧SpaceAt wx c3 bs' (vN T)∧wx.heap[bm']?=some (.map #[] 0)∧c3 bm'=.tabMap
theorem qKY {w3:World}{c3 k0:Nat→Col}{bd' bs' bm':Nat}(hB:Below w.heap.size w w3)(hcc:∀ k,k<w.heap.size→c3 k=k0 k)(hd:DiskAt w3 c3 bd' T.disk)(hs:SpaceAt w3 c3 bs' (vN T))(hm:w3.heap[bm']?=some (.map #[] 0))(hmc:c3 bm'=.tabMap)(hbm:w.heap.size≤bm') :
  CpIn w k0 T (w3.alloc (.cells #[.pointer (some ⟨bd',0,none⟩),.pointer (some ⟨bs',0,none⟩),.map (some bm')] 85)) w3.heap.size bd' bs' bm' (jC c3 w3.heap.size .tab):=by
 have e:=Ext.made w3 c3 S0 (.cells #[.pointer (some ⟨bd',0,none⟩),.pointer (some ⟨bs',0,none⟩),.map (some bm')] 85) .tab;refine⟨hB.alloc hB.size _,fun k hk=>?_,hB.size,hbm,zK1 w3 _,qM _ _ _,hd.ext e rfl rfl,hs.ext e rfl rfl,(e.kept hm hmc rfl).1,(e.kept hm hmc rfl).2⟩;rw[qJ hk hB.size];exact hcc k hk
theorem qF6 (k0:Nat→Col)(hro:∀ k,c k=.ro→k0 k=.ro)(h:TabAt w c b T)(hD:T.disk.length≤1000000)(hL:T.l.length≤1000000) :
  Calls Tryz.prog 111 #[.pointer (some ⟨b,0,none⟩)] w fun e w'=>∃ b2 c2,e=.returned (.pointer (some ⟨b2,0,none⟩))∧Below w.heap.size w w'∧(∀ k,k<w.heap.size→c2 k=k0 k)∧w.heap.size≤b2∧TabAt w' c2 b2 T:=by
 obtain⟨bd,bs,bm,st,h⟩:=h;have H:=Hh h;have hU:(vN T).length≤1000000:=by rw[jB];exact hD
 have c0:=ce0 h.own;have c1:=ce1 h.own;have hbl:=lt_of_cell c0;have hmm:=@run_makeMap Tryz.prog;have HRO:=Hh hro;clear h hro;go_enter Tryz.func111,Tryz.ntmps111;go_upto_region 1 with fail
 go_cut [3] (fun s wx=>∃ (b' bd' bs' bm':Nat) (c3:Nat→Col),s=.pointer (some ⟨b',0,none⟩)∧Hg (CpIn w k0 T wx b' bd' bs' bm' c3))
 case first =>
  go_region_held3 (fun w'=>w'.cell? ⟨b,0,none⟩=some (.pointer (some ⟨bd,0,none⟩))∧w'.cell? ⟨b,1,none⟩=some (.pointer (some ⟨bs,0,none⟩)))
   (first
    | exact⟨c0,c1⟩
    | exact⟨c0',c1'⟩
    | exact⟨c0'',c1''⟩
    | go_keep)
   (first
    | (go_at_call 163;refine(qFF (fun k=>if k<w.heap.size then k0 k else .tabMap) (H.o.disk.ext (Ext.of_below (by go_grown) c S0) rfl rfl) hD).mono ?_;rintro ev w2 ⟨bd2,c2,rfl,hb2,hc2,hbd2,hd2⟩;have hb2':Below w.heap.size w w2:=(by refine Below.trans ?_ (hb2.mono ?_)<;>first | go_grown | (simp;done) | (simp;omega));have c0':=(hb2'.cell (p:=⟨b,0,none⟩) hbl).trans c0;have c1':=(hb2'.cell (p:=⟨b,1,none⟩) hbl).trans c1)
    | (go_at_call 164;refine(qD9 (fun k=>if k<w2.heap.size then c2 k else .tabMap) (H.o.space.ext (Ext.of_below (w:=w) (by first | exact hb2' | exact hb2'.alloc hb2'.size _) c S0) rfl rfl) hU).mono ?_;rintro ev w3 ⟨bs3,c3,rfl,hb3,hc3,hbs3,hs3'⟩;have hb3':Below w.heap.size w w3:=(by first | exact hb2'.trans (hb3.mono hb2'.size) | exact(hb2'.alloc hb2'.size _).trans (hb3.mono (by have:=hb2'.size;simp;omega)));have c0'':=(hb3'.cell (p:=⟨b,0,none⟩) hbl).trans c0;have c1'':=(hb3'.cell (p:=⟨b,1,none⟩) hbl).trans c1)
    | fail)
  ·have hs2:=hb2'.size;have hs3:=hb3'.size;have hz:w.drew.heap.size=w.heap.size:=rfl;have e3:=Ext.made w3 c3 S0 (.map #[] 0) .tabMap;have hd3:DiskAt w3 c3 bd2 T.disk:=hd2.ext ((Ext.of_below hb3 c2 S0).recolor (c3:=c3) fun k hk _=>by rw[hc3 k hk,zM1 hk]) rfl rfl;have hf:=qKY (w:=w) (T:=T) (k0:=k0) (hb3'.alloc hs3 (.map #[] 0)) (fun k hk=>by rw[qJ hk hs3,hc3 k (by omega),zM1 (by omega),hc2 k (by omega),zM1 hk]) (hd3.ext e3 rfl rfl) (hs3'.ext e3 rfl rfl) (zK1 w3 _) (qM _ _ _) hs3;clear c0 c1 c0' c1' c0'' c1'';go_wp2;go_meet
   case rel=>exact⟨_,_,_,_,_,by simp,Hh hf⟩
  ·have hs2:=hb2'.size;have hs3:=hb3.size;have hz:w.drew.heap.size=w.heap.size:=rfl;have hz2:(w2.alloc (.map #[] 0)).heap.size=w2.heap.size+1:=by simp
   have hd3:DiskAt w3 c3 bd2 T.disk:=hd2.ext ((((Ext.refl w2 c2 S0).alloc (.map #[] 0)).trans (Ext.of_below hb3 c2 S0)).recolor (c3:=c3) fun k hk _=>by rw[hc3 k (by omega),zM1 hk]) rfl rfl;have hf:=qKY (w:=w) (T:=T) (k0:=k0) (bm':=w2.heap.size) hb3' (fun k hk=>by rw[hc3 k (by omega),zM1 (by omega),hc2 k (by omega),zM1 hk]) hd3 hs3' ((hb3.block _ (by omega)).trans (zK1 w2 _)) (by rw[hc3 _ (by omega),zL1 (by omega)]) hs2;clear c0 c1 c0' c1' c0'' c1'';go_wp2;go_meet
   case rel=>exact⟨_,_,_,_,_,by simp,Hh hf⟩
  ·have hs2:=hb2.size;have hs3:=hb3.size;have hz2:(w.alloc (.map #[] 0)).drew.heap.size=w.heap.size+1:=by simp
   have hd3:DiskAt w3 c3 bd2 T.disk:=hd2.ext ((Ext.of_below hb3 c2 S0).recolor (c3:=c3) fun k hk _=>by rw[hc3 k hk,zM1 hk]) rfl rfl;have hf:=qKY (w:=w) (T:=T) (k0:=k0) (bm':=w.heap.size) hb3' (fun k hk=>by rw[hc3 k (by omega),zM1 (by omega),hc2 k (by omega),zM1 hk]) hd3 hs3' ((hb3.block _ (by omega)).trans ((hb2.block _ (by omega)).trans (zK1 w _))) (by rw[hc3 _ (by omega),zM1 (by omega),hc2 _ (by omega),zL1 (by omega)]) (zo _);clear c0 c1 c0' c1' c0'' c1'';go_wp2;go_meet
   case rel=>exact⟨_,_,_,_,_,by simp,Hh hf⟩
 case rest =>
  obtain⟨b',bd',bs',bm',c3,rfl,HC⟩:=hcut;obtain⟨hB,hcc,hb',hbm',hown,hcb,hd3,hs3,hm3,hmc⟩:=HC.o;have c2:wc.cell? ⟨b,2,none⟩=some (.map (some bm)):=(hB.cell (p:=⟨b,2,none⟩) hbl).trans (zJ1 w b 2 _ _ _ H.o.own);have HM:=Hh (H.o.map.of_block (hB.block _ H.o.map.lt));have HB:=Hh hB;have HNM:=Hh (show gS wc bm' 0 (fun _=>none) from ⟨.map [],⟨#[],0,hm3,⟨by simp,MapKept.stamped_empty 0,by simp⟩,zo _,rfl⟩,MapIs.empty⟩);have hblt:=H.o.map.lt;clear c0 c1 hB hcc hown hcb hd3 hs3 hm3;go_wp2_with (at_range;refine qAc rfl _ 83 252 rfl okN Tryz.underlying83 rfl HM.o ?_;intro w4 cnt hrg hgr hsz);have HR:=Hh hrg;have hB4:=Hh (HB.o.grown hgr HB.o.size (fun k hk=>by cases hk));have he4:=((Ext.refl wc c3 S0).grown hgr (fun k hk=>by cases hk)).recolor (c3:=jC c3 wc.heap.size .free) (fun k hk _=>qJ hk (zo _));have HE4:=Hh he4;have hr0:=HB.o.size;have hbmlt:bm'<wc.heap.size:=HNM.o.lt;have H0:=Hh (show CpSt w w4 w4 k0 (jC c3 wc.heap.size .free) (jC c3 wc.heap.size .free) T st bm bm' wc.heap.size (fun x=>(jT T st x).isSome) cnt st from
   ⟨hB4.o,Ext.refl _ _ _,HR.o,(((HNM.o.ext he4 hmc rfl).mono (zw _)).congr (fun k=>by
    have:(jT T st k).isSome=(T.at_ k).isSome:=by unfold jT;cases T.at_ k<;>rfl
    rw[zL1 (by rintro ⟨h1,h2⟩;rw[this,h1] at h2;cases h2)])),fun k x hx hl=>(by unfold jT at hl;rw[hx] at hl;cases hl),by rw[qJ hbmlt (zo _)];exact hmc,qM _ _ _,fun k hk=>(by rw[qJ hk hr0];exact HC.o.2.1 k hk)⟩)
  clear hrg hgr he4 c2;generalize hr:wc.heap.size=r at *
  go_loopw [25] (fun _ wr=>∃ (left:Nat→Bool) (cn:Nat) (cr:Nat→Col) (st':Nat→Nat),Hg (CpSt w w4 wr k0 (jC c3 r .free) cr T st bm bm' r left cn st')) (fun _ wr=>wr.rangeLeft bm r)
  case atStart=>exact⟨_,_,_,_,H0⟩
  case round =>
   obtain⟨left,cn,cr,st',HS⟩:=hrel;have hm0:=HS.o.range.left_eq;go_wp2_with (at_next;refine qAg rfl _ rfl okN (fun x hx=>by have:=List.mem_range.1 (qBy T st x hx);omega) rfl HS.o.range ?_ ?_)
   case _ =>
    intro hdone;have HDN:=Hh hdone;clear hdone;go_wp2;go_ret;obtain⟨_,hcc,hb',_,hown,hcb,hd3,hs3,_,hmc⟩:=HC.o;have e:=(HE4.o.mono (S':=fun y=>decide (y=.tabMap)||decide (y=.free)) (fun _ _=>rfl)).trans HS.o.ext;refine⟨b',cr,rfl,HS.o.below,HS.o.old,hb',bd',bs',bm',st',(e.kept hown hcb rfl).1,(e.kept hown hcb rfl).2,hd3.ext e rfl rfl,hs3.ext e rfl rfl,HS.o.mcol,HS.o.map.congr (fun k=>?_),fun k x hx=>HS.o.stats k x hx (HDN.o k)⟩
    ·unfold jT
     cases hk:T.at_ k with
     | none=>simp
     | some x=>simp[HDN.o k]
   case _ =>
    intro x v w5 cnt' hlx hfx hrg5 hlt hgr5 hsz5 hen;obtain⟨ino,hino⟩:∃ ino,T.at_ x=some ino:=by
     unfold jT at hfx
     cases hx:T.at_ x with
     | none=>rw[hx] at hfx;cases hfx
     | some y=>exact⟨y,rfl⟩
    have hv:v=.pointer (some ⟨st x,0,none⟩):=by
     unfold jT at hfx;rw[hino] at hfx;exact(Option.some.inj hfx).symm
    subst hv;obtain⟨Ai,capi,hi1,hi2,hi3,hi4⟩:=H.o.cells hino;have hB5:=Hh (HS.o.below.grown hgr5 HS.o.below.size (fun k hk=>by injection hk with hk;omega));have HI5:=Hh ((hB5.o.block _ (qA hi1)).trans hi1);obtain⟨q0,q1,q2,q3⟩:=cq HI5.o;have q4:=ce4 HI5.o;have HLX:=Hh hlx;have HR5:=Hh hrg5;have HG5:=Hh hgr5;have HLT:=Hh hlt;have HRO5:=Hh hi4;have HC5:=Hh hi3;have HINO:=Hh hino;simp only[mkN] at hen;clear hi1 hi2 hi3 hi4 hlx hrg5 hgr5 hlt hfx hino;go_upto_region 6 with fail;have hrS:(fun y=>decide (y=Col.tabMap)||decide (y=Col.free)) ((jC c3 r .free) r)=true:=by rw[qM];rfl
    have hsz0:=HS.o.ext.size;have hb6:Below w5.heap.size w5 (w5.alloc (.cells (jN ino Ai capi) 254)):=(zB _ w5).alloc (zo _) _;have E6:=Hh (((HS.o.ext.grown HG5.o (fun k hk _=>by injection hk with hk;subst hk;exact hrS)).alloc (.cells (jN ino Ai capi) 254)).recolor (c3:=jC cr wr.heap.size (.stat x)) (fun k hk _=>qJ hk hsz0));have F6:=Hh ((((Ext.refl wr cr (fun y=>decide (y=Col.tabMap)||decide (y=Col.free))).grown HG5.o (fun k hk _=>by injection hk with hk;subst hk;rw[HS.o.rcol];simp)).alloc (.cells (jN ino Ai capi) 254)).recolor (c3:=jC cr wr.heap.size (.stat x)) (fun k hk _=>qJ hk (zo _)));have HB6:=Hh (hB5.o.trans (hb6.mono hB5.o.size));have HN6:=Hh (show (w5.alloc (.cells (jN ino Ai capi) 254)).heap[wr.heap.size]?=some (.cells (jN ino Ai capi) 254 (0,0)) from by rw[← hsz5];exact zK1 w5 (.cells (jN ino Ai capi) 254));have HM6:=Hh ((HS.o.map.kept HG5.o (by simp;omega)).kept (Below.toGrown hb6 none) (by simp));have HR6:=Hh (HR5.o.kept (Below.toGrown hb6 none) (by simp) (by simp));have hbl6:bm'<wr.heap.size:=HS.o.map.lt;have hmc6:(jC cr wr.heap.size (.stat x)) bm'=.tabMap:=by rw[qJ hbl6 (zo _)];exact HS.o.mcol
    clear q0 q1 q2 q3 q4 hen hb6;obtain⟨W6,hW6⟩:∃ W6,W6=w5.alloc (.cells (jN ino Ai capi) 254):=⟨_,rfl⟩;have hW6':w5.alloc (.cells #[.int .i64 ino.bytes,.int .i64 ino.links,.bool ino.exec,.slice Ai ino.blocks.length capi,.int .u32 ino.sum.toNat] 254)=W6:=hW6.symm;rw[← hW6] at E6 F6 HB6 HN6 HM6 HR6;rw[hW6'];clear hW6 hW6';have hown6:=((HE4.o.mono (S':=fun y=>decide (y=.tabMap)||decide (y=.free)) (fun _ _=>rfl)).trans E6.o).kept HC.o.2.2.2.2.1 HC.o.2.2.2.2.2.1 rfl;have c2:=ce2 hown6.1;clear hown6;have hxl:x<T.l.length:=nH HINO.o;go_wp2_with (at_mapUpdate;refine yR rfl _ _ _ 83 252 rfl okN Tryz.underlying83 rfl HM6.o (by unfold maxLen;omega) x (by omega) rfl (.pointer (some ⟨wr.heap.size,0,none⟩)) rfl ?_;intro W7 hmap hturn);have ht7:=Ext.turned hturn hmc6;have hlt6:r<w4.heap.size:=by omega
    have hr6:(jC cr wr.heap.size (.stat x)) r=.free:=by rw[qJ (zt hlt6 hsz0) (zo _)];exact HS.o.rcol
    have hR7:=HR6.o.kept hturn.grown (fun e=>by injection e with e;omega) (fun e=>by
     injection e with e
     rw[e,hmc6] at hr6
     cases hr6)
    refine⟨⟨fun y=>left y&&!decide (y=x),cnt',jC cr wr.heap.size (.stat x),fun k=>if k=x then wr.heap.size else st' k,Hh ⟨?_,E6.o.then ht7 (jP rfl),hR7,?_,?_,hmc6,hr6,fun k hk=>?_⟩⟩,?_⟩
    ·exact HB6.o.grown hturn.grown HB6.o.size (fun k hk=>by injection hk with hk;omega)
    ·have h1:=(hmap.congr (g:=fun k=>if (T.at_ k).isSome=true∧(left k&&!decide (k=x))=false then some (.pointer (some ⟨if k=x then wr.heap.size else st' k,0,none⟩)) else none) (fun k=>by
      by_cases hk:k=x
      ·subst hk
       simp[HINO.o]
      ·simp[hk])).tight okN.keyed (List.range T.l.length) (fun k hk=>by
       apply qBy T st k
       by_cases hx:(T.at_ k).isSome=true
       ·unfold jT
        cases h3:T.at_ k with
        | none=>rw[h3] at hx;cases hx
        | some y=>rfl
       ·rw[zL1 (fun h=>hx h.1)] at hk;cases hk)
     simpa using h1
    ·intro k y hy hl;by_cases hk:k=x
     ·subst hk;rw[HINO.o] at hy
      cases hy
      simp only[if_true];refine⟨Ai,capi,(ht7.kept HN6.o (qM cr wr.heap.size (.stat k)) rfl).1,qM _ _ _,HC5.o,fun hn=>?_⟩;obtain⟨g,off,ha,hg,hgc,hj⟩:=HRO5.o hn;have hb7:=HB6.o.grown hturn.grown HB6.o.size (fun k hk=>by injection hk with hk;omega);have hw0:=HS.o.below.size;exact⟨g,off,ha,zt hg hb7.size,by rw[qJ (zt hg hw0) (zo _),HS.o.old g hg];exact HRO.o g hgc,fun j z hz=>(hb7.cell (p:=⟨g,off+j,none⟩) hg).trans (hj j z hz)⟩
     ·simp only[zL1 hk];have hlk:left k=false:=by simpa[hk] using hl
      exact((HS.o.stats k y hy hlk).ext F6.o rfl rfl).ext ht7 rfl rfl
    ·rw[qJ hk HS.o.below.size];exact HS.o.old k hk
    ·rw[hR7.left_eq];exact HLT.o
end
end Go.Proofs.YtbmkaekimccdgaaGreatDoor
