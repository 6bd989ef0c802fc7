/- Lemmas. -/
import Derived.OwnWalk
import Derived.Test.YtbmkaekimccdgaaGreatDoorBm37
set_option maxHeartbeats 16000000
set_option maxRecDepth 1000000
set_option linter.all false
namespace Go.Proofs.YtbmkaekimccdgaaGreatDoor
open Go.RowKit Go.Sort Go.Shelf Stl
attribute [local go_sem] Oper.semAt_some
def qJ6 (x:Nat×PX):Array Value:=#[.int .i64 x.1,dG x.2]
def uV (n₀ Bm:Nat)(W W':World):Prop:=Below n₀ W W'∧W'.heap[Bm]?=W.heap[Bm]?
theorem qG3 {n₀ Bm:Nat}{A B C:World}(h:uV n₀ Bm A B)(k:uV n₀ Bm B C):uV n₀ Bm A C:=⟨h.1.trans k.1,k.2.trans h.2⟩
theorem qMC {n₀ Bm:Nat}{w:World}(hn:n₀≤w.heap.size)(hb:Bm<w.heap.size)(W:World)(l:Nat)(o o':Obj)(hl:w.heap.size≤l)(h:W.heap[l]?=some o)(h1:o.isCells=false)(h2:o.isWalk=false):uV n₀ Bm W (W.putObj l o'):=⟨belowK_b hn W l o o' hl h h1 h2,World.putObj_heap_other (by omega)⟩
def gK (zs:List PX)(k:Nat):List (Nat×PX):=(List.range k).map fun i=>(zs.length-1-i,zs[zs.length-1-i]?.getD default)
theorem qGP (zs:List PX)(k:Nat):gK zs (k+1)=gK zs k++[(zs.length-1-k,zs[zs.length-1-k]?.getD default)]:=by
 unfold gK;rw[List.range_succ,zU];rfl
theorem qD3 (zs:List PX)(k:Nat):(gK zs k).length=k:=by simp[gK]
theorem qIi (zs:List PX):(gK zs zs.length).map (·.2)=zs.reverse:=by
 apply List.ext_getElem?;intro i;unfold gK;simp only[zW,zN];by_cases hi:i<zs.length
 ·rw[List.getElem?_range hi,List.getElem?_reverse hi];have h2:zs.length-1-i<zs.length:=by omega
  simp[h2]
 ·rw[List.getElem?_eq_none (by simp;omega),List.getElem?_eq_none (by simp;omega)];rfl
theorem qHz (A:Option Addr)(n cap:Nat)(w:World):Calls Tryz.prog 166 #[.slice A n cap] w fun e w'=>e=.returned (.func (.func 224) #[] #[.pointer (some ⟨w.heap.size,0,none⟩)])∧w'=w.alloc (.cells #[.slice A n cap] 206):=by
 go_enter Tryz.func166,Tryz.ntmps166;go_wp2;go_ret;exact⟨rfl,rfl⟩
theorem qHZ (n:Nat)(hn:1≤n)(Bm n₀:Nat)(A:Option Addr)(zs:List PX)(cap:Nat)(hz:zs.length≤1000000)(w:World)(hBm:Bm<w.heap.size)(hn₀:n₀≤w.heap.size)(w0:World)(hw0:w0.heap.size≤n₀)(hb0:Below w0.heap.size w0 w)(hm:w.cell? ⟨Bm,0,none⟩=some (.slice A zs.length cap))(hp:PacksAt w0 A zs) :
  SeqStopsK Fence.wide n Tryz.prog 224 #[.pointer (some ⟨Bm,0,none⟩)] qJ6 (uV n₀ Bm) (fun xs=>xs=gK zs zs.length) (fun _=>True) zs.length w:=fun l J Jx W hW hJ hJx hY h0=>by
 have hm':=(hW.cell (p:=⟨Bm,0,none⟩) hBm).trans hm;have hbW:Below n₀ W W:=zB _ _;have hw0W:Below w0.heap.size w0 W:=hb0.trans (hW.mono hb0.size);have HB0:=Hh hw0W;have HP:=Hh hp;have hszW:n₀≤W.heap.size:=zq hn₀ hW.size;clear hp hb0 hm hw0W;refine callsIn_of_wp Tryz.func224 rfl trivial ?_ rfl;simp only[Tryz.ntmps224,List.size_toArray,zQ,List.length_nil,Nat.reduceAdd,Nat.reduceSub,Array.replicate_succ,Array.replicate_zero,List.push_toArray,List.append_toArray,zh,zE]
 gi_wp2
 gi_loopw [3] (fun p wr=>∃ k,k≤zs.length∧p=.int .i64 ((zs.length:Int)-1-k)∧Hg (J (gK zs k) wr)∧Hg (uV n₀ Bm W wr))
  (fun p _=>(intOf p+1).toNat)
 case atStart =>
  exact⟨0,zw _,by go_num,Hh h0,Hh ⟨hbW,rfl⟩⟩
 case round =>
  obtain⟨k,hk,rfl,hJs,hB⟩:=hrel;by_cases hkl:k=zs.length
  ·subst hkl;have i1:¬ (0:Int)≤(zs.length:Int)-1-zs.length:=by omega
   gi_wp2
   go_end0;exact⟨⟨_,rfl⟩,.inl hJs.o⟩
  ·have hkl':k<zs.length:=by omega
   have i1:(0:Int)≤(zs.length:Int)-1-k:=by omega
   have i2:(zs.length:Int)-1-k<(zs.length:Int):=by omega
   have hj:zs.length-1-k<zs.length:=by omega
   have ej:(zs.length:Int)-1-k=((zs.length-1-k:Nat):Int):=by omega
   obtain⟨b,off,hA,hb',s0,s1,s2,s3,s4,s5⟩:=(HP.o.later (HB0.o.trans (hB.o.1.mono hw0))).at hj;subst hA;have hmr:=(zD1 (w:=W) (w':=wr) (a:=⟨Bm,0,none⟩) hB.o.2).trans hm';have hYY:=hY (gK zs k) (zs.length-1-k,zs[zs.length-1-k]) wr hJs.o (by rw[qD3];omega);simp only[qJ6,dG] at hYY;have HSU:=Hh (show gK zs (k+1)=gK zs k++[(zs.length-1-k,zs[zs.length-1-k])] by rw[qGP];simp[hj]);rw[← HSU.o] at hYY;rw[ej] at i1 i2 ⊢;generalize zs[zs.length-1-k]=y at *;obtain⟨fn,tmps,assign,body,hy,hR⟩:=hYY
   gi_wp2
   refine hR.mono ?_;rintro e W3 (⟨rfl,hJ3,hk3⟩ | ⟨rfl,hJx3⟩)
   ·gi_wp2
    go_roundw
    case rel=>exact⟨k+1,by omega,by go_num,Hh hJ3,Hh (qG3 hB.o hk3)⟩
    case measure =>
     simp only[intOf];omega
   ·gi_wp2
    refine zH1 (results_none rfl _ _ _) rfl ?_;exact⟨⟨_,rfl⟩,.inr ⟨_,trivial,hJx3⟩⟩
def xU (live:List (List UInt8))(l:List PX):List (List UInt8):=(l.filter fun y=>!live.contains y.p.name).map (·.p.name)
theorem qGn (live:List (List UInt8))(l:List PX)(y:PX):xU live (l++[y])=xU live l++(if live.contains y.p.name=true then [] else [y.p.name]):=by
 unfold xU;rw[List.filter_append,zU]
 cases h:live.contains y.p.name with
 | true=>rw[zM1 rfl,zJ (by rw[h];decide)];rfl
 | false=>rw[zL1 (by decide),zK (by rw[h];rfl)];rfl
theorem qD7 (live:List (List UInt8))(l:List PX):(xU live l).length≤l.length:=by
 unfold xU;rw[zT];exact zS _ _
theorem qIa (zs:List PX)(roots:List (List UInt8)):xU (closure (zs.map (·.p)) roots) zs.reverse=yZ (zs.map (·.p)) roots:=by
 unfold xU yZ;rw[← List.map_reverse,List.filter_map,zW];rfl
theorem qMQ {w:World}{A:Option Addr}{zs:List PX}(h:PacksAt w A zs)(hP:nY (zs.map (·.p)))(cap:Nat)(hcap:zs.length≤cap){An:Option Addr}{cn:Nat}{roots:List (List UInt8)}(hn:Strs w (.slice An roots.length cn) roots)(hnl:roots.length≤1000)(hin:∀ x∈roots,x∈zs.map (·.p.name)) :
  Calls Tryz.prog 113 #[.slice A zs.length cap,.slice An roots.length cn] w (qHg w (yZ (zs.map (·.p)) roots)):=by
 have HCL:=Hh (qCx h hP cap hcap hn hnl hin);have hmany:zs.length≤40:=by have:=hP.many;simpa using this
 have H:=Hh h;have HDA:=Hh (qIa zs roots);generalize yZ (zs.map (·.p)) roots=res at HDA ⊢;clear h hP hn hin;refine(zI1 (n:=6)).1 ?_;refine callsIn_of_wp_marks Tryz.func113 rfl trivial ?_ rfl;simp only[Tryz.ntmps113,List.size_toArray,zQ,List.length_nil,Nat.reduceAdd,Nat.reduceSub,Array.replicate_succ,Array.replicate_zero,List.push_toArray,List.append_toArray,zh,zE]
 gi_wp2_with (first
  | (refine⟨trivial,?_⟩;gi_at_call 135;refine(zI1.2 HCL.o).mono ?_;rintro e w2 ⟨v,rfl,hrow,hb2⟩;obtain⟨Av,cv,rfl⟩:=Stl.owns_slice _ hrow;have HR2:=Hh hrow;have HB2:=Hh hb2;clear hrow hb2)
  | (gi_at_call 135;refine(zI1.2 HCL.o).mono ?_;rintro e w2 ⟨v,rfl,hrow,hb2⟩;obtain⟨Av,cv,rfl⟩:=Stl.owns_slice _ hrow;have HR2:=Hh hrow;have HB2:=Hh hb2;clear hrow hb2)
  | (refine⟨trivial,?_⟩;gi_at_call 166;refine(zI1.2 (qHz _ _ _ _)).mono ?_;rintro e w' ⟨rfl,rfl⟩)
  | (gi_at_call 166;refine(zI1.2 (qHz _ _ _ _)).mono ?_;rintro e w' ⟨rfl,rfl⟩))
 generalize hlv:closure (zs.map (·.p)) roots=live at *;obtain⟨W0,hW0⟩:∃ W0,((w2.alloc (.cells #[.slice Av live.length cv] 22)).alloc (.cells #[.slice none 0 0] 22)).alloc (.cells #[.slice A zs.length cap] 206)=W0:=⟨_,rfl⟩;have hb0:Below w2.heap.size w2 W0:=by rw[← hW0];exact xF w2 _ _ _
 have hsz0:W0.heap.size=w2.heap.size+3:=by rw[← hW0];simp
 have bx6:Boxed W0 w2.heap.size 22 (.slice Av live.length cv):=by rw[← hW0];exact((Boxed.new w2 _ _).alloc _).alloc _
 have bx8:Boxed W0 (w2.heap.size+1) 22 (.slice none 0 0):=by
  rw[← hW0];have:=(Boxed.new (w2.alloc (.cells #[.slice Av live.length cv] 22)) 22 (.slice none 0 0)).alloc (.cells #[.slice A zs.length cap] 206);simpa using this
 have bx9:Boxed W0 (w2.heap.size+1+1) 206 (.slice A zs.length cap):=by
  rw[← hW0];have:=Boxed.new ((w2.alloc (.cells #[.slice Av live.length cv] 22)).alloc (.cells #[.slice none 0 0] 22)) 206 (.slice A zs.length cap);simpa using this
 rw[hW0];clear hW0;have hs2:=HB2.o.size;have HLS:=Hh (vF HR2.o);have hlive:live.length≤9223372036854775807:=by
  have hh:=HR2.o.2;unfold maxLen at hh
  rcases hh with ⟨_,h0⟩ | ⟨_,_,_,_,_,_,h1,h2,_⟩
  ·omega
  ·omega
 refine wpIn_rangeFunc_ownH (F:=Fence.wide) (n:=6) rfl (by omega) (gf:=224) (lb:=#[.pointer (some ⟨w2.heap.size+1+1,0,none⟩)]) rfl trivial (enters_of Tryz.func224 (by kernel_rfl) rfl)
  (qHZ 5 (by omega) (w2.heap.size+1+1) w2.heap.size A zs cap (by omega) W0 (by omega) (by omega) w (by omega) (HB2.o.trans (hb0.mono hs2)) bx9.cell H.o) qG3 (qMC (by omega) (by omega)) (zB _ _) (fun x=>rfl)
  (fun pre W=>(Boxed W w2.heap.size 22 (.slice Av live.length cv)∧Boxed W (w2.heap.size+1+1) 206 (.slice A zs.length cap))∧(∃ v,Boxed W (w2.heap.size+1) 22 v∧W.ownsRow w2.heap.size 9 1 v (xU live (pre.map (·.2))).length ((xU live (pre.map (·.2))).map encStr)∧True)∧Below w2.heap.size w2 W) (fun _ _ _=>False)
  ?own (fun c A B row W hs _ _=>hs.elim) ?start (fun x a' W=>∃ Bx,w2.heap.size+2<Bx∧W.heap[Bx]?=some (.cells #[.string ⟨x.2.p.name.toArray⟩,.slice x.2.a x.2.p.refs.length x.2.cap,.string x.2.t0,.string x.2.t1,.bool x.2.t2,.slice x.2.t3 x.2.t4 x.2.t5] 260 (0,0))∧a'={ tmps:=#[.slice A zs.length cap,.slice An roots.length cn,undef,undef,.slice none 0 0,.nilIface,.pointer (some ⟨w2.heap.size,0,none⟩),.nilIface,.pointer (some ⟨w2.heap.size+1,0,none⟩),undef,.pointer (some ⟨Bx,0,none⟩),.tuple #[.slice Av live.length cv,.nilIface],.slice A zs.length cap,.slice An roots.length cn,.tuple #[.slice Av live.length cv,.nilIface],.slice Av live.length cv,.nilIface,.nilIface,.bool false,undef,.slice A zs.length cap,.func (.func 224) #[] #[.pointer (some ⟨w2.heap.size+1+1,0,none⟩)],.int .i64 x.1,.agg #[.string ⟨x.2.p.name.toArray⟩,.slice x.2.a x.2.p.refs.length x.2.cap,.string x.2.t0,.string x.2.t1,.bool x.2.t2,.slice x.2.t3 x.2.t4 x.2.t5],undef,undef,undef,undef,undef,undef,undef,undef,undef,undef,undef],defers:=[] }) ?ax ?assign ?body ?done ?stop
 case own =>
  exact OwnFrom.and (OwnFrom.and (Own.from (boxed_own _ _ _) _) (Own.from (boxed_own _ _ _) _)) (OwnFrom.and (Own.from (holdsRow_own _ _ _ _ _ _ _ _) _) (ownFrom_below (zo _) (by omega)))
 case start=>exact⟨⟨bx6,bx9⟩,⟨_,bx8,zF1 _ _ _ _,trivial⟩,hb0⟩
 case ax =>
  rintro x a' _ X Y row ⟨Bx,h1,h2,h3⟩ hg hr;refine⟨Bx,h1,(hg.block Bx (qA h2) fun e=>?_).trans h2,h3⟩;obtain⟨o,ho,hc⟩:=(hr Bx e.symm).2;rw[h2] at ho
  cases ho
  cases hc
 case assign =>
  rintro l pre x W K ⟨⟨hi1,hi0⟩,⟨v,hi2,hi3,_⟩,hi4⟩ hK;simp only[qJ6,dG]
  gi_wp2
  have hlt:w2.heap.size+1+1<W.heap.size:=hi0.lt;refine hK _ _ ((KeepsOthers.alloc _ _).from _) ⟨(zB _ W).alloc ?_ _,Below.heap_alloc _ _ _ hlt⟩ ⟨⟨hi1.alloc _,hi0.alloc _⟩,⟨v,hi2.alloc _,hi3.alloc _,trivial⟩,hi4.alloc hi4.size _⟩ ⟨W.heap.size,?_,zK1 W _,rfl⟩
  ·omega
  ·omega
 case body =>
  rintro l pre ⟨ix,y⟩ a' W hl hr ⟨⟨hi1,hi0⟩,⟨v,hi2,hi3,_⟩,hi4⟩ ⟨Bx,hBx,bX,rfl⟩ hlen;simp only at bX;have d6:=hi1.cell;have d8:=hi2.cell;have f8:=hi2.frozen;have x0:=ce0 bX;have HCN:=Hh (wF _ _ y.p.name W (HLS.o.later hi4) (by omega));have HSN:=Hh (qGn live (pre.map (·.2)) y);have hpl:=qD7 live (pre.map (·.2));rw[zT] at hpl;have hlt:w2.heap.size+1+1<W.heap.size:=hi0.lt;have HI:=Hh (And.intro hi1 (And.intro hi0 (And.intro hi2 (And.intro hi3 hi4))));have H9:=Hh (show (pre++[(ix,y)]).map (·.2)=pre.map (·.2)++[y] by simp);clear hi1 hi0 hi2 hi3 hi4
  cases hq:live.contains y.p.name with
  | true =>
   rw[hq] at HCN HSN;have HE:=Hh (show xU live ((pre++[(ix,y)]).map (·.2))=xU live (pre.map (·.2)) by rw[H9.o,HSN.o,zM1 rfl,List.append_nil]);clear hq
   gi_wp2_with (first
    | (refine⟨trivial,?_⟩;gi_at_call 167;refine(CallsIn.inRound l (zI1.2 HCN.o)).mono ?_;rintro e w' ⟨rfl,rfl⟩)
    | (gi_at_call 167;refine(CallsIn.inRound l (zI1.2 HCN.o)).mono ?_;rintro e w' ⟨rfl,rfl⟩))
   refine⟨(KeepsOthers.refl _).from _,⟨zB _ _,rfl⟩,⟨HI.o.1,HI.o.2.1⟩,⟨v,HI.o.2.2.1,?_,trivial⟩,HI.o.2.2.2.2⟩;rw[HE.o];exact HI.o.2.2.2.1
  | false =>
   rw[hq] at HCN HSN;have HE:=Hh (show xU live ((pre++[(ix,y)]).map (·.2))=xU live (pre.map (·.2))++[y.p.name] by rw[H9.o,HSN.o,zL1 (by decide)]);clear hq;obtain⟨i0,hi,hz0,hz1,hz2⟩:=pO
   gi_wp2_with (first
    | (refine⟨trivial,?_⟩;gi_at_call 167;refine(CallsIn.inRound l (zI1.2 HCN.o)).mono ?_;rintro e w' ⟨rfl,rfl⟩)
    | (gi_at_call 167;refine(CallsIn.inRound l (zI1.2 HCN.o)).mono ?_;rintro e w' ⟨rfl,rfl⟩)
    | (gi_at_builtin;refine wpListIn_append_own _ rfl _ _ 22 rfl w2.heap.size 9 i0 _ 1 16 Tryz.underlying22 hi hz0 hz1 hz2 rfl (by decide) _ _ _ rfl (HI.o.2.2.2.1.alloc _) ⟨w'.heap.size,0,none⟩ 1 1 [.string ⟨y.p.name.toArray⟩] rfl rfl (cell_one_new _ _ _) (by simp[Value.oneCell']) (by unfold maxLen;omega) (by omega) (by simp;omega) ?_;intro v' w1 hown' hgrow _;obtain⟨g',cap',rfl⟩:=ownsRow_succ hown';obtain⟨hv1,hv2,hr2,hk2,hb2⟩:=HI.o.2.2.1.appended (by decide) HI.o.2.2.2.1 (by omega) (by omega) hown' hgrow;have hc1:=hv1.cell;have hf1:=hv1.frozen))
   have hg:∀ {b:Nat} {t:TypeId} {u:Value},Boxed w' b t u→t≠9→b≠w2.heap.size+1→∀ u',(w1.setCell ⟨w2.heap.size+1,0,none⟩ u').heap[b]?=w'.heap[b]?:=fun {b t u} hb ht hne u'=>(zA _ ⟨w2.heap.size+1,0,none⟩ _ b hne).trans ((hgrow.block b (zt hb.lt (by simp)) (hb.not_row ht HI.o.2.2.2.1)).trans (Below.heap_alloc _ _ _ hb.lt))
   have hg6:=hg HI.o.1 (by decide) (by omega) (.slice (some ⟨g',0,none⟩) ((xU live (pre.map (·.2))).length+1) cap');have hg9:=hg HI.o.2.1 (by decide) (by omega) (.slice (some ⟨g',0,none⟩) ((xU live (pre.map (·.2))).length+1) cap');refine⟨hk2.from _,⟨hb2,hg9⟩,⟨hg6.trans HI.o.1,hg9.trans HI.o.2.1⟩,⟨_,hv2,?_,trivial⟩,HI.o.2.2.2.2.trans hb2⟩;rw[HE.o];simpa using hr2
 case done =>
  rintro Dd xs W hDd hxs ⟨⟨hi1,hi0⟩,⟨v,hi2,hi3,_⟩,hi4⟩ hK;subst hxs;rw[qIi,HDA.o] at hi3;have d8:=hi2.cell
  gi_wp2
  refine⟨by simp,.inl ⟨_,_,rfl,run_takeDeferred hK,?_⟩⟩;refine⟨.tuple #[v,.nilIface],by simp[results,Tryz.results113,go_sem],v,rfl,(ownsRow_putObj hi3 _ hK rfl).mono hs2,?_⟩;exact(HB2.o.trans (hi4.mono hs2)).trans (belowK_b (w:=w) (zo _) W Dd _ _ (by omega) hK rfl rfl)
 case stop =>
  rintro Dd c' pre W hDd hF h;exact h.elim
structure GiSt (w4 wr:World)(c4 cr:Nat→Col)(b:Nat)(s:Sto)(p:Nat→Addr)(tp:Nat)(dead:List (List UInt8))(j:Nat)(bd:Nat)(A:Option Addr)(cap:Nat)(zs:List PkX)(R:Option Addr)(rc:Nat)(d:Stl.Dirs):Prop where
 ext:Ext w4 wr c4 cr mU
 sto:StoX wr cr b ⟨d,zs.map (·.p),s.roots⟩ bd A cap zs R rc tp
 inv:qM4 d (zs.map (·.p)) (dead.drop j)
 eq:jG s.d s.l dead=jG d (zs.map (·.p)) (dead.drop j)
 good:DirsGood d
 env:Env wr cr p
 few:zs.length≤40
theorem qJ3 {d d1:Stl.Dirs}{k:Nat}(hd:DirsGood d)(h:d.drop k=.ok d1):DirsGood d1:=by
 have h1:=qFe h;have h2:=qGS hd.ok h;have:=hd.inos;have:=hd.next;have:=hd.ents;exact⟨h2.1,by rw[h1.disk];exact hd.disk,by have:=h1.inos;omega,by have:=h1.next;omega,by have:=h1.ents;omega⟩
section
variable {w:World}{A:Option Addr}{zs:List PkX}{c:Nat→Col}{b:Nat}{s:Sto}{bd:Nat}{cap:Nat}{R:Option Addr}{rc tp:Nat}{p:Nat→Addr}
theorem qOt (h:StoX w c b s bd A cap zs R rc tp)(hg:vB s)(hE:Env w c p) :
  Calls Tryz.prog 70 #[.pointer (some ⟨b,0,none⟩)] w (ChPost p w c b tp (.ok (dec s.gc.1,s.gc.2))):=by
 have hfew:=h.few hg.ok;have hrf:=h.fewRefs hg.ok;have hrl:=pJ hg.ok;have H:=Hh h;have HG:=Hh hg;have HE:=Hh hE;have c2:=ce2 h.own;have hbl:=qA h.own;have hD0:=(zB w.heap.size w).drew;have HPK:=Hh (show Calls Tryz.prog 114 #[.pointer (some ⟨b,0,none⟩)] w.drew _ from qF3 (h.below hD0) (by omega) (fun x hx=>by have:=hrf x hx;omega));have HRT:=Hh (vF h.roots.1);have HDD:=Hh (show s.gc=((yZ s.l s.roots).length,{ s with d:=(jG s.d s.l (yZ s.l s.roots)).1,l:=(jG s.d s.l (yZ s.l s.roots)).2 }) from rfl);have HGS:=Hh (qLm hg.ok);have HD0:=Hh hD0;have hdl:(yZ s.l s.roots).length≤40:=by
  have h1:=qAB hg.ok.pks.names s.roots;have h2:=nF h1 (fun x hx=>(mH.1 hx).1);rw[zT] at h2;have:=hg.ok.pks.many;omega
 clear h hg hE hD0 hrf;go_enter Tryz.func70,Tryz.ntmps70;go_upto_region 1 with fail
 go_region_held3 (fun w'=>w'.cell? ⟨b,2,none⟩=some (.slice R s.roots.length rc))
  (first
   | exact c2
   | exact c2'
   | exact c2''
   | go_keep)
  (first
   | (go_at_call 114;refine HPK.o.mono ?_;rintro ev w2 ⟨A2,cap2,ys,rfl,hcap2,hys,hr2,hrr2,hz2,hb2⟩;have HB2:=Hh (HD0.o.trans hb2);have HYS:=Hh hys;have HIN:=Hh (show ∀ x∈s.roots,x∈ys.map (·.p.name) from fun x hx=>by { have h1:=HG.o.ok.roots x hx;rw[← hys,zW] at h1;exact h1 });have HPA:=Hh (qAm hr2 hrr2);have hcap2':=hcap2;have c2':=(HB2.o.cell (p:=⟨b,2,none⟩) hbl).trans c2;clear hr2 hrr2 hz2 hb2 hys)
   | (go_at_call 113;refine(qMQ HPA.o (by rw[HYS.o];exact HG.o.ok.pks) cap2 hcap2 (HRT.o.later HB2.o) (by omega) HIN.o).mono ?_;rintro ev w3 ⟨v3,rfl,hr3,hb3⟩;rw[HYS.o] at hr3;obtain⟨A3,cap3,rfl⟩:=Stl.owns_slice _ hr3;have HR3:=Hh hr3;have HB3:=Hh (HB2.o.trans (hb3.mono HB2.o.size));have c2'':=(HB3.o.cell (p:=⟨b,2,none⟩) hbl).trans c2;clear hr3 hb3)
   | fail)
 clear c2 c2' c2'';have HRS:=Hh (vF HR3.o);have hrow:=HR3.o.lt;generalize hdq:yZ s.l s.roots=dead at *;obtain⟨c4,hc4⟩:∃ c4:Nat→Col,c4=fun k=>if k<w.heap.size then c k else .ro:=⟨_,rfl⟩
 have e4:Ext w w3 c c4 S0:=(Ext.of_below HB3.o c S0).recolor fun k hk _=>by rw[hc4];exact zM1 hk
 have hcro:∀ g,(Value.slice A3 dead.length cap3).ownBlock=some g→c4 g=.ro∧g<w3.heap.size:=fun g hg=>by
  obtain⟨l1,l2⟩:=hrow g hg;have:=HB2.o.size;rw[hc4];show (if g<w.heap.size then _ else Col.ro)=_∧_;rw[zL1 (by omega)];exact⟨rfl,l2⟩
 have HCR:=Hh hcro;have HE4:=Hh e4;have hx4:=H.o.ext e4 rfl (fun _ _=>rfl);have H0:=Hh (show GiSt w3 w3 c4 c4 b s p tp dead 0 bd A cap zs R rc s.d from ⟨Ext.refl _ _ _,by have:=hx4;rw[show s=⟨s.d,s.l,s.roots⟩ from rfl,← H.o.eq] at this;exact this,by rw[List.drop_zero,H.o.eq];exact HGS.o,by rw[List.drop_zero,H.o.eq],HG.o.good,HE.o.ext e4 rfl,hfew⟩);clear hc4 e4 hcro hx4 hrow;go_upto_region 5 with fail
 go_loopw [25] (fun a wr=>∃ (j:Nat) (cr:Nat→Col) (A:Option Addr) (cap:Nat) (zs:List PkX) (R:Option Addr) (rc:Nat) (d:Stl.Dirs),a=.int .i64 j∧j≤dead.length∧Hg (GiSt w3 wr c4 cr b s p tp dead j bd A cap zs R rc d)) (fun a _=>dead.length-(intOf a).toNat)
 case atStart=>exact⟨0,c4,A,cap,zs,R,rc,s.d,rfl,zw _,H0⟩
 case round =>
  obtain⟨j,cr,A',cap',zs',R',rc',d,rfl,hj,HS⟩:=hrel;by_cases hjl:j<dead.length
  ·have i1:(j:Int)<(dead.length:Int):=by omega
   have i2:(0:Int)≤(j:Int):=by omega
   have hinv:=HS.o.inv;have hdrop:dead.drop j=dead[j]::dead.drop (j+1):=zF hjl;rw[hdrop] at hinv;obtain⟨k,hk,hkn,hku,e,hent,hnext⟩:=qMv hinv;obtain⟨As,cs,es,hst⟩:=HRS.o;injection es with es1 es2 es3
   subst es1 es3;clear es2;obtain⟨g0,off0,rfl,hg0,hgc⟩:=hst (by intro e;rw[e] at hjl;simp at hjl);have q0:wr.cell? ⟨g0,off0+j,none⟩=some (.string ⟨dead[j].toArray⟩):=(zD1 (w:=w3) (a:=⟨g0,off0+j,none⟩) (HS.o.ext.keep g0 hg0 (by rw[(HCR.o g0 (by simp[Value.ownBlock])).1];rfl)).1).trans (hgc j _ (zL hjl));have HFD:=Hh (gR HS.o.sto (by have:=HS.o.few;omega) dead[j]);have HDR:=Hh hdrop;generalize dead[j]=nm at *;have hkz:k<zs'.length:=by simpa using hk
   have HIX:=Hh (show ∀ ix:Int,FindIs zs' nm ix→ix=(k:Int) from fun ix hix=>by
    rcases hix with ⟨_,h⟩ | ⟨k',hk',rfl,h⟩
    ·refine absurd ?_ (h zs'[k] (zO hkz))
     simpa using hkn
    ·rw[hku k' (by simpa using hk') (by simpa using h)])
   have hkk:((zs'.map fun x:PkX=>x.p)[k]'hk).k=zs'[k].p.k:=by simp
   rw[hkk] at hent hnext;have hem:=vX hent;have hkb:zs'[k].p.k≤1000000:=by rw[← hem.2];exact qJU HS.o.good hem.1
   have hdd:d.drop zs'[k].p.k=.ok { d with t:=qK d.t e.f,l:=d.l.filter fun x=>x.k != zs'[k].p.k }:=by unfold Dirs.drop;rw[hent]
   have HNX:=Hh (hnext _ hdd);have HGD:=Hh (qJ3 HS.o.good hdd);have HEN:=Hh hent;clear hent hnext hdd hem hkn hku hkk hinv hdrop hgc hst;go_upto_region 8 with (go_at_call 97;refine HFD.o.mono ?_;rintro ev w5 ⟨⟨ix,rfl,hix⟩,hb5⟩;obtain rfl:=HIX.o ix hix;have HB5:=Hh hb5;clear hb5 hix);clear q0;have HX5:=Hh (HS.o.sto.below HB5.o);have HE5:=Hh (Ext.of_below HB5.o cr mU);obtain⟨g,hA,hg,s0,s1,s2⟩:=HX5.o.kept.at hkz;subst hA;have hdr:=qOd (HX5.o.dirs.below (zB w5.heap.size w5).drew) HS.o.good zs'[k].p.k hkb HEN.o;have HDP:=Hh (show Calls Tryz.prog 115 #[.pointer (some ⟨bd,0,none⟩),.int .i64 zs'[k].p.k] w5.drew _ from hdr);have c0:=ce0 HX5.o.own;have c1:=ce1 HX5.o.own;have k1:(k:Int)<(zs'.length:Int):=by omega
   have k2:(0:Int)≤(k:Int):=by omega
   have HGC:=Hh (show cr g=.stoL from HX5.o.packs.2 g rfl);have HED:=Hh (show Ext w5 w5.drew cr cr mN from (Ext.refl w5 cr mN).drew);clear s0 s1 hdr;generalize hkq:zs'[k].p.k=kq at *
   go_region_held3 (fun w'=>w'.cell? ⟨b,0,none⟩=some (.pointer (some ⟨bd,0,none⟩))∧w'.cell? ⟨b,1,none⟩=some (.slice (some ⟨g,0,none⟩) zs'.length cap')∧w'.cell? ⟨g,k*3+2,none⟩=some (.int .i64 (kq:Int)))
    (first
     | exact⟨c0,c1,s2⟩
     | exact HS6.o
     | go_keep)
    (first
     | (go_at_call 115;refine HDP.o.mono ?_;rintro ev w6 ⟨rfl,c6,he6',hd6⟩;have he6:Ext w5 w6 cr c6 mN:=HED.o.trans he6';have hx6:=HX5.o.redirs he6 hd6;have HE6:=Hh he6;have HX6:=Hh hx6;have HGC6:=Hh (show c6 g=.stoL from hx6.packs.2 g rfl);have HS6:=Hh (show w6.cell? ⟨b,0,none⟩=some (.pointer (some ⟨bd,0,none⟩))∧w6.cell? ⟨b,1,none⟩=some (.slice (some ⟨g,0,none⟩) zs'.length cap')∧w6.cell? ⟨g,k*3+2,none⟩=some (.int .i64 (kq:Int)) from ⟨zJ1 w6 b 0 _ _ _ hx6.own,zJ1 w6 b 1 _ _ _ hx6.own,(zD1 (w:=w5) (a:=⟨g,k*3+2,none⟩) (he6.keep g hg (by rw[HGC.o];rfl)).1).trans s2⟩);clear he6' he6 hd6 hx6)
     | fail)
   clear c0 c1 s2;have c1:w6.cell? ⟨b,1,none⟩=some (.slice (some ⟨g,0,none⟩) zs'.length cap'):=HS6.o.2.1;have HDK:=Hh (qNM HX6.o.packs.1 k hkz (by have:=HS.o.few;omega));have hbne:b≠g:=qCS HX6.o.col HGC6.o (by decide);have k3:IntKind.i64.wrap ((k:Int)+1)=(k:Int)+1:=wrap_i64 (by omega) (by have:=HS.o.few;omega);go_upto_region 12 with (go_at_call 116;refine HDK.o.mono ?_;rintro ev w7 ⟨rfl,hr7,hg7⟩;have HR7:=Hh hr7;have HG7:=Hh hg7;have hb7:=(hg7.block b (qA HX6.o.own) (fun e=>by injection e with e;exact hbne e)).trans HX6.o.own;have d1:w7.cell? ⟨b,1,none⟩=some (.slice (some ⟨g,0,none⟩) zs'.length cap'):=zJ1 w7 b 1 _ _ _ hb7;have f1:=qC hb7 1;clear hr7 hg7 hb7);have he7:Ext w6 w7 c6 c6 (S1 .stoL):=(Ext.refl w6 c6 (S1 .stoL)).grown HG7.o (fun k hk _=>by injection hk with hk;rw[← hk,HGC6.o];rfl);have hlen:(zs'.eraseIdx k).length=zs'.length-1:=List.length_eraseIdx_of_lt hkz;obtain⟨p1,p2⟩:=HX6.o.relist he7 (A':=some ⟨g,0,none⟩) (cap':=cap') (zs':=zs'.eraseIdx k) (by rw[hlen];exact RowAt.of_owns HR7.o (fun k hk=>HX6.o.packs.2 k hk)) (fun x hx=>by
    have hx':=List.mem_of_mem_eraseIdx hx
    exact⟨(HX6.o.ro x hx').1,(HX6.o.ro x hx').2.ext he7 rfl⟩)
   rw[hlen] at p1 p2;have HP1:=Hh p1;have HP2:=Hh p2;have HE7:=Hh he7;have HLN:=Hh hlen;have HEI:=Hh (show (zs'.map (·.p)).eraseIdx k=(zs'.eraseIdx k).map (·.p) from by simp[List.eraseIdx_eq_take_drop_succ,List.map_take,List.map_drop]);clear p1 p2 he7 hlen c1 d1 f1;go_wp2;go_roundw
   case rel =>
    have hnx:=HNX.o;rw[HEI.o] at hnx;refine⟨j+1,c6,some ⟨g,0,none⟩,cap',zs'.eraseIdx k,R',rc',_,by go_num,hjl,Hh ⟨?_,HP1.o,hnx.1,?_,HGD.o,?_,by rw[HLN.o];have:=HS.o.few;omega⟩⟩
    ·exact(((HS.o.ext.then HE5.o (fun _ h=>h)).then HE6.o nN).then HE7.o (jP rfl)).then HP2.o (jP rfl)
    ·rw[HS.o.eq,HDR.o];exact hnx.2
    ·exact((((HS.o.env.ext HE5.o rfl).ext HE6.o rfl).ext HE7.o rfl).ext HP2.o rfl)
   case measure=>simp[intOf];omega
  ·have i1:¬ (j:Int)<(dead.length:Int):=by omega
   obtain rfl:j=dead.length:=by omega
   have HIT:=Hh (xZ dead.length (by omega) wr HS.o.env.vars);have heq:=HS.o.eq;rw[List.drop_length] at heq;have HEQ:=Hh (show s.gc=(dead.length,⟨d,zs'.map (·.p),s.roots⟩) by rw[HDD.o,heq];rfl);clear heq;go_wp2_with (go_at_call 64;refine HIT.o.mono ?_;rintro ev w5 ⟨rfl,hb5⟩;have HB5:=Hh hb5;clear hb5);go_ret2;refine⟨_,_,cr,rfl,?_,rfl,?_,?_⟩
   ·exact(((HE4.o.mono qNi).trans HS.o.ext)).then (Ext.of_below HB5.o cr mU) (fun _ h=>h)
   ·rw[HEQ.o]
   ·rw[HEQ.o];exact(HS.o.sto.below HB5.o).shut
end
def qOH (p:Nat→Addr)(w:World)(c:Nat→Col)(b tp:Nat)(r:Option (Except Nat (List UInt8×Sto)))(ev:Ending)(w':World):Prop :=
 ∃ (a:ByteArray) (er:Value) (is:Bool),ev=.returned (.tuple #[.string a,er,.bool is]) ∧
  match r with
  | none=>is=false∧er=.nilIface∧Below w.heap.size w w'
  | some r=>is=true∧ChPost p w c b tp r (.returned (.tuple #[.string a,er])) w'
section
variable {w:World}{A:Option Addr}{zs:List PkX}{c:Nat→Col}{b:Nat}{s:Sto}{bd:Nat}{cap:Nat}{R:Option Addr}{rc tp:Nat}{p:Nat→Addr}
theorem ChPost.lay {w1:World}{r:Except Nat (List UInt8×Sto)}{ev:Ending}{w':World}(hb:Below w.heap.size w w1)(h:ChPost p w1 c b tp r ev w') :
  ∃ (a:ByteArray) (er:Value),ev=.returned (.tuple #[.string a,er])∧ChPost p w c b tp r (.returned (.tuple #[.string a,er])) w':=by
 obtain⟨a,er,c2,rfl,he,hm⟩:=h;exact⟨a,er,rfl,a,er,c2,rfl,(Ext.of_below hb c mU).trans he,hm⟩
theorem qBW (h:StoX w c b s bd A cap zs R rc tp)(hg:vB s)(hE:Env w c p)(line:List UInt8)(hr:line.length≤1000000) :
  Calls Tryz.prog 36 #[.pointer (some ⟨b,0,none⟩),.string ⟨line.toArray⟩] w (qOH p w c b tp (s.change line)):=by
 obtain⟨res,hres⟩:∃ res,res=s.change line:=⟨_,rfl⟩;rw[← hres];unfold Sto.change at hres;have H:=Hh h;have HG:=Hh hg;have HE:=Hh hE;have HGC:=Hh (qOt h hg hE);have HSH:=Hh (qJV h hg hE);clear h hg hE
 cases h1:line==[103,99] with
 | true =>
  rw[zM1 (by simpa using h1)] at hres;have HRS:=Hh hres;clear hres;go_enter Tryz.func36,Tryz.ntmps36;go_upto_region 4 with (go_at_call 70;refine HGC.o.mono ?_;intro ev w1 hp;obtain⟨a,er,rfl,hq⟩:=hp.lay (zB _ w);have HP:=Hh hq;clear hp hq);go_wp2;go_ret3;rw[HRS.o];exact⟨_,_,_,rfl,rfl,HP.o⟩
 | false =>
  rw[zL1 (by simpa using h1)] at hres
  cases h2:line==[111,112,116] with
  | true =>
   rw[zM1 (by simpa using h2)] at hres;have HRS:=Hh hres;clear hres;go_enter Tryz.func36,Tryz.ntmps36;go_upto_region 7 with (go_at_call 71;refine HSH.o.mono ?_;intro ev w1 hp;obtain⟨a,er,rfl,hq⟩:=hp.lay (zB _ w);have HP:=Hh hq;clear hp hq);go_wp2;go_ret3;rw[HRS.o];exact⟨_,_,_,rfl,rfl,HP.o⟩
  | false =>
   rw[zL1 (by simpa using h2)] at hres
   cases hc:cutAt 32 line with
   | none =>
    rw[hc] at hres;have HRS:=Hh hres;have HCUT:=Hh (pS 32 hc (by omega) w HE.o.max);clear hres hc;go_enter Tryz.func36,Tryz.ntmps36;go_upto_region 9 with (go_at_call 72;refine HCUT.o.mono ?_;rintro ev w1 ⟨rfl,hb1⟩;have HB1:=Hh hb1;clear hb1);go_wp2;go_ret3;rw[HRS.o];exact⟨_,_,_,rfl,rfl,rfl,HB1.o⟩
   | some q =>
    obtain⟨word,rest⟩:=q;rw[hc] at hres;simp only at hres;have hnl:=nC 32 hc;have HCUT:=Hh (gU 32 hc (by omega) w HE.o.max);clear hc HGC HSH;go_enter Tryz.func36,Tryz.ntmps36;go_upto_region 11 with (go_at_call 72;refine HCUT.o.mono ?_;rintro ev w1 ⟨rfl,hb1⟩;have HB1:=Hh hb1;clear hb1);have HX1:=Hh (H.o.below HB1.o);have HE1:=Hh (HE.o.below HB1.o)
    cases h3:word==[97,100,100] with
    | true =>
     rw[zM1 (by simpa using h3)] at hres;have HRS:=Hh hres;have HC:=Hh (qNF HX1.o HG.o HE1.o rest (by omega));clear hres;go_upto_region 23 with (go_at_call 73;refine HC.o.mono ?_;intro ev w2 hp;obtain⟨a,er,rfl,hq⟩:=hp.lay HB1.o;have HP:=Hh hq;clear hp hq);go_wp2;go_ret3;rw[HRS.o];exact⟨_,_,_,rfl,rfl,HP.o⟩
    | false =>
     rw[zL1 (by simpa using h3)] at hres
     cases h4:word==[114,111,111,116] with
     | true =>
      rw[zM1 (by simpa using h4)] at hres;have HRS:=Hh hres;have HC:=Hh (qLC HX1.o HG.o HE1.o rest);clear hres;go_upto_region 23 with (go_at_call 74;refine HC.o.mono ?_;intro ev w2 hp;obtain⟨a,er,rfl,hq⟩:=hp.lay HB1.o;have HP:=Hh hq;clear hp hq);go_wp2;go_ret3;rw[HRS.o];exact⟨_,_,_,rfl,rfl,HP.o⟩
     | false =>
      rw[zL1 (by simpa using h4)] at hres
      cases h5:word==[117,110,114,111,111,116] with
      | true =>
       rw[zM1 (by simpa using h5)] at hres;have HRS:=Hh hres;have HC:=Hh (qIM HX1.o HG.o HE1.o rest);clear hres;go_upto_region 23 with (go_at_call 75;refine HC.o.mono ?_;intro ev w2 hp;obtain⟨a,er,rfl,hq⟩:=hp.lay HB1.o;have HP:=Hh hq;clear hp hq);go_wp2;go_ret3;rw[HRS.o];exact⟨_,_,_,rfl,rfl,HP.o⟩
      | false =>
       rw[zL1 (by simpa using h5)] at hres
       cases h6:word==[114,111,116] with
       | true =>
        rw[zM1 (by simpa using h6)] at hres;have HRS:=Hh hres;have HC:=Hh (qNx HX1.o HG.o HE1.o rest (by omega));clear hres;go_upto_region 23 with (go_at_call 76;refine HC.o.mono ?_;intro ev w2 hp;obtain⟨a,er,rfl,hq⟩:=hp.lay HB1.o;have HP:=Hh hq;clear hp hq);go_wp2;go_ret3;rw[HRS.o];exact⟨_,_,_,rfl,rfl,HP.o⟩
       | false =>
        rw[zL1 (by simpa using h6)] at hres
        cases h7:word==[109,101,110,100] with
        | true =>
         rw[zM1 (by simpa using h7)] at hres;have HRS:=Hh hres;have HC:=Hh (qMU HX1.o HG.o HE1.o rest (by omega));clear hres;go_upto_region 23 with (go_at_call 77;refine HC.o.mono ?_;intro ev w2 hp;obtain⟨a,er,rfl,hq⟩:=hp.lay HB1.o;have HP:=Hh hq;clear hp hq);go_wp2;go_ret3;rw[HRS.o];exact⟨_,_,_,rfl,rfl,HP.o⟩
        | false =>
         rw[zL1 (by simpa using h7)] at hres;have HRS:=Hh hres;clear hres;go_wp2;go_ret3;rw[HRS.o];exact⟨_,_,_,rfl,rfl,rfl,HB1.o⟩
end
theorem qCy {p:Nat→Addr}(e:Addr)(w:World)(hE:Errs w p) :
  Calls Tryz.prog 39 #[.iface 376 (.pointer (some e))] w fun ev w'=>ev=.returned (.iface 376 (.pointer (some e)))∧Below w.heap.size w w':=by
 have hb1:=(zB w.heap.size w).alloc (zo _) (.cells #[.pointer none] 67);have HB1:=Hh hb1;have HAS:=Hh (qNK e ⟨w.heap.size,0,none⟩ (w.alloc (.cells #[.pointer none] 67)) (hE.later hb1).ety.1);clear hE hb1;go_enter Tryz.func39,Tryz.ntmps39;go_wp2_with (go_at_call 22;refine HAS.o.mono ?_;rintro ev w2 ⟨rfl,hb2⟩;have HB2:=Hh (HB1.o.trans (hb2.mono HB1.o.size));clear hb2);go_ret;exact⟨rfl,HB2.o⟩
def Sdo:Col→Bool:=fun y=>!(decide (y=.ro)||decide (y=.dead))
def kDo (c:Nat→Col):Nat→Col:=fun k=>if c k=.ro then .ro else if c k=.tape then .tape else if c k=.tapeL then .tapeL else .dead
def oD:Col→Bool:=fun y=>!(decide (y=.ro)||decide (y=.tape)||decide (y=.tapeL)||decide (y=.dead))
theorem qHA {c:Nat→Col}{k:Nat}(h:oD (c k)=false):kDo c k=c k:=by
 unfold kDo oD at *
 cases hc:c k<;>simp[hc] at h ⊢
theorem qGy (c:Nat→Col)(k:Nat):mU (kDo c k)=false:=by
 unfold kDo;split
 ·rfl
 ·split
  ·rfl
  ·split<;>rfl
theorem qIz {p:Nat→Addr}{w:World}{c:Nat→Col}{b tp:Nat}{cd:Nat}{a:ByteArray}{er:Value}{w':World}(h:ChPost p w c b tp (.error cd) (.returned (.tuple #[.string a,er])) w'):(er=jK p cd∧cd≠0)∧∃ c2,Ext w w' c c2 mU:=by
 obtain⟨a',er',c2,hev,he,hm⟩:=h;have:er=er':=by
  injection hev with hev
  injection hev with hev
  have:=congrArg (fun x:Array Value=>x[1]?) hev;simpa using this
 exact⟨this▸hm,c2,he⟩
theorem qF5 {p:Nat→Addr}{w:World}{c:Nat→Col}{b tp:Nat}{q:List UInt8×Sto}{a:ByteArray}{er:Value}{w':World}(h:ChPost p w c b tp (.ok q) (.returned (.tuple #[.string a,er])) w'):(er=.nilIface∧a=⟨q.1.toArray⟩)∧∃ c2,Ext w w' c c2 mU∧StoAt w' c2 b q.2 tp:=by
 obtain⟨a',er',c2,hev,he,h1,h2,h3⟩:=h;have e1:er=er':=by
  injection hev with hev
  injection hev with hev
  have:=congrArg (fun x:Array Value=>x[1]?) hev;simpa using this
 have e2:a=a':=by
  injection hev with hev
  injection hev with hev
  have:=congrArg (fun x:Array Value=>x[0]?) hev;simpa using this
 exact⟨⟨e1▸h1,e2▸h2⟩,c2,he,h3⟩
def qNf (p:Nat→Addr)(w:World)(c:Nat→Col)(b tp:Nat)(s:Sto)(t:Stl.Tape)(line:List UInt8)(ev:Ending)(w':World):Prop :=
 ∃ (a:ByteArray) (er:Value) (c2:Nat→Col),ev=.returned (.tuple #[.string a,er])∧Ext w w' c c2 Sdo∧StoAt w' c2 b (yH s t line).2.1 tp∧TapeAt w' c2 tp (yH s t line).2.2 ∧
  match (yH s t line).1 with
  | .error cd=>er=jK p cd∧cd≠0∧a=⟨#[]⟩
  | .ok x=>er=.nilIface∧a=⟨x.toArray⟩
section
variable {w:World}{A:Option Addr}{zs:List PkX}{c:Nat→Col}{b:Nat}{s:Sto}{bd:Nat}{cap:Nat}{R:Option Addr}{rc tp:Nat}{p:Nat→Addr}
theorem StoX.moved {w2:World}{c2:Nat→Col}{b2:Nat}(h:StoX w c b s bd A cap zs R rc tp)(hd:c b2=.dead)(e:Ext w w2 (jC c b2 .sto) c2 (S1 .sto))(ho:w2.heap[b2]?=some (.cells #[.pointer (some ⟨bd,0,none⟩),.slice A zs.length cap,.slice R s.roots.length rc,.pointer (some ⟨tp,0,none⟩)] 59 (0,0)))(hc:c2 b2=.sto) :
  StoX w2 c2 b2 s bd A cap zs R rc tp:=by
 have e1:Ext w w c (jC c b2 .sto) (S1 .dead):=Ext.paint w hd .sto;refine⟨ho,hc,(h.dirs.ext e1 rfl (fun x hx=>yU (by intro e;subst e;cases hx))).ext e rfl (fun x hx=>yU (by intro e;subst e;cases hx)),(h.packs.ext e1 rfl).ext e rfl,h.eq,fun x hx=>⟨(h.ro x hx).1,((h.ro x hx).2.ext e1 rfl).ext e rfl⟩,(h.roots.ext e1 rfl).ext e rfl⟩
end
end Go.Proofs.YtbmkaekimccdgaaGreatDoor
