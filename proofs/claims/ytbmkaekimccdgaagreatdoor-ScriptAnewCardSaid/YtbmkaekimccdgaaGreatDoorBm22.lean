/- Lemmas. -/
import Derived.Test.YtbmkaekimccdgaaGreatDoorBm21
set_option maxHeartbeats 16000000
set_option maxRecDepth 1000000
set_option linter.all false
namespace Go.Proofs.YtbmkaekimccdgaaGreatDoor
open Go.RowKit Go.Sort Go.Shelf Stl
theorem qHu (w:World):(zeroValue 260).run Tryz.prog w=.ok (.agg #[.string ⟨#[]⟩,.slice none 0 0,.string ⟨#[]⟩,.string ⟨#[]⟩,.bool false,.slice none 0 0]) w:=by kernel_rfl
theorem qIH (v0 v1 v2 v3 v4 v5:Value)(w:World):(Instr.field 260 (.agg #[v0,v1,v2,v3,v4,v5]) 0).run Tryz.prog w=.ok v0 w:=by kernel_rfl
theorem qIQ (v0 v1 v2 v3 v4 v5:Value)(w:World):(Instr.field 260 (.agg #[v0,v1,v2,v3,v4,v5]) 1).run Tryz.prog w=.ok v1 w:=by kernel_rfl
def dG (y:PX):Value:=.agg #[.string ⟨y.p.name.toArray⟩,.slice y.a y.p.refs.length y.cap,.string y.t0,.string y.t1,.bool y.t2,.slice y.t3 y.t4 y.t5]
def mT (zs:List PX)(x:List UInt8):Option Value:=(zs.find? fun y=>y.p.name==x).map dG
theorem qDH {zs:List PX}{x:List UInt8}(h:x∈zs.map (·.p.name)):∃ y∈zs,y.p.name=x∧mT zs x=some (dG y):=by
 unfold mT
 cases hf:zs.find? fun y=>y.p.name==x with
 | none =>
  obtain⟨y,hy,hx⟩:=zb.1 h;have:=List.find?_eq_none.1 hf y hy;simp at this;exact absurd hx this
 | some y=>exact⟨y,zf hf,by simpa using List.find?_some hf,rfl⟩
theorem qGs {zs:List PX}{y:PX}(h:y.p.name∉zs.map (·.p.name))(x:List UInt8):mT (zs++[y]) x=if x=y.p.name then some (dG y) else mT zs x:=by
 unfold mT;rw[List.find?_append];by_cases hx:x=y.p.name
 ·subst hx;rw[zM1 rfl,List.find?_eq_none.2 (fun z hz=>by
   intro e
   exact h (zb.2 ⟨z,hz,by simpa using e⟩))]
  simp
 ·rw[zL1 hx]
  cases zs.find? fun z=>z.p.name==x with
  | some z=>rfl
  | none =>
   have:(y.p.name==x)=false:=by rw[zG1];exact fun e=>hx e.symm
   simp[this]
theorem qGV {zs:List PX}(n bm bx:Nat)(s:List UInt8)(hs:s∈zs.map (·.p.name))(hp:∀ y∈zs,isName y.p.name=true)(w:World)(hm:vM w bm n (mT zs))(hbx:w.heap[bx]?=some (.cells #[.map (some bm)] 281 (0,0))) :
  Calls Tryz.prog 249 #[.string ⟨s.toArray⟩,.pointer (some ⟨bx,0,none⟩)] w fun e w'=>e=.returned (.bool false)∧w'=w:=by
 have d0:=ce0 hbx;obtain⟨y,hy,rfl,hq⟩:=qDH hs;have hlk:=hm.get (t:=281) okS Tryz.underlying281 (qHu w) (i:=y.p.name) (by have:=mX (hp y hy);unfold maxLen;omega);simp only[mkS] at hlk;rw[hq] at hlk;simp only[zx,dG] at hlk;have hne:(y.p.name==([]:List UInt8))=false:=by
  rw[zG1];intro e;have:=qHk (hp y hy);rw[e] at this;simp at this
 have hf0:=qIH;clear hm hbx hq hs;go_enter Tryz.func249,Tryz.ntmps249;go_wp2;go_ret;exact⟨rfl,rfl⟩
theorem qDl:∀ args w,(callFunc 249 args).run Tryz.prog w=.ok (.enter 249 args) w:=enters_of Tryz.func249 (by kernel_rfl) rfl
abbrev qJB (zs:List PX):={ s:List UInt8 // s∈zs.map (·.p.name) }
theorem qKP {zs:List PX}(n bm bx:Nat)(hp:∀ y∈zs,isName y.p.name=true)(w:World)(hm:vM w bm n (mT zs))(hbx:w.heap[bx]?=some (.cells #[.map (some bm)] 281 (0,0))){A:Option Addr}{cap:Nat}{rs:List (List UInt8)}(hr:Strs w (.slice A rs.length cap) rs)(hrl:rs.length≤1000000)(hin:∀ x∈rs,x∈zs.map (·.p.name)) :
  Calls Tryz.prog 207 #[.slice A rs.length cap,.func (.func 249) #[] #[.pointer (some ⟨bx,0,none⟩)]] w fun e w'=>e=.returned (.bool false)∧Below w.heap.size w w':=by
 rcases Nat.eq_zero_or_pos rs.length with h0 | h0
 ·rw[h0];refine(AnyE.slices_ContainsFunc_empty Tryz.cfStr A cap _ w).mono ?_;rintro e w' ⟨rfl,rfl⟩;exact⟨rfl,zB _ _⟩
 ·obtain⟨A',c',e1,h1⟩:=hr;injection e1 with e1 e2 e3
  subst e1 e3;obtain⟨g,off,rfl,hg,hcells⟩:=h1 (by intro e;rw[e] at h0;simp at h0);have hne:rs≠[]:=by intro e;rw[e] at h0;simp at h0
  haveI:Inhabited (qJB zs):=⟨⟨rs.head hne,hin _ (List.head_mem hne)⟩⟩
  obtain⟨L,hL⟩:∃ L:List (qJB zs),L.map (fun s=>s.1)=rs:=⟨rs.attach.map fun s=>⟨s.1,hin s.1 s.2⟩,by rw[zW];exact List.attach_map_subtype_val rs⟩;subst hL;rw[zT] at hrl ⊢;refine(AnyE.slices_ContainsFunc Tryz.cfStr (fun s:qJB zs=>Value.string ⟨s.1.toArray⟩) (fun _=>false) _ _ qDl g off L.length cap L w (fun W x hb=>?_) (zo _) (by omega) (fun j hj=>by
   rw[hcells j L[j].1 (by simp[hj])]
   rw[getElem!_pos L j hj])).mono ?_
  ·refine(qGV n bm bx x.1 x.2 hp W (hm.of_block (hb.block _ hm.lt)) ((hb.block _ (qA hbx)).trans hbx)).mono ?_;rintro e w' ⟨rfl,rfl⟩;exact⟨rfl,0,rfl⟩
  ·rintro e w' ⟨rfl,q,rfl⟩;refine⟨?_,Below.drewN (zB _ _) q⟩;congr 2;simp
structure BnSt (w wr:World)(bm bc:Nat)(zs:List PX)(j:Nat):Prop where
 below:Below w.heap.size w wr
 cell:wr.heap[bc]?=some (.cells #[.map (some bm)] 281 (0,0))
 map:vM wr bm j (mT (zs.take j))
def qOo (w:World)(zs:List PX)(ev:Ending)(w':World):Prop:=∃ bm,ev=.returned (.tuple #[.map (some bm),.bool true])∧vM w' bm zs.length (mT zs)∧Below w.heap.size w w'
theorem qEU {w:World}{A:Option Addr}{zs:List PX}(h:PacksAt w A zs)(hP:nY (zs.map (·.p)))(cap:Nat){An:Option Addr}{cn:Nat}{names:List (List UInt8)}(hn:Strs w (.slice An names.length cn) names)(hnl:names.length≤1000000)(hin:∀ x∈names,x∈zs.map (·.p.name)) :
  Calls Tryz.prog 191 #[.slice A zs.length cap,.slice An names.length cn] w (qOo w zs):=by
 have hmm:=@run_makeMap Tryz.prog;have HP:=Hh hP;have H:=Hh h;have HN:=Hh hn;have HIN:=Hh hin;have hmany:zs.length≤40:=by have:=hP.many;simpa using this
 have HW:=Hh (show ∀ y∈zs,isName y.p.name=true from fun y hy=>hP.well y.p (zb.2 ⟨y,hy,rfl⟩));have H0:=Hh (show BnSt w ((w.alloc (.map #[] 0)).alloc (.cells #[.map (some w.heap.size)] 281)) w.heap.size (w.heap.size+1) zs 0 from
  ⟨((zB _ w).alloc (zo _) _).alloc (by simp) _,by have:=zK1 (w.alloc (.map #[] 0)) (.cells #[.map (some w.heap.size)] 281);simpa using this,((zzMapAt.made w Tryz.prog 9 oB).of_block (Below.heap_alloc _ _ _ (by simp))).congr (fun x=>rfl)⟩)
 clear hP h hn hin;go_enter Tryz.func191,Tryz.ntmps191;go_upto_region 3 with fail;generalize (w.alloc (.map #[] 0)).alloc (.cells #[.map (some w.heap.size)] 281)=w4 at *
 go_loopw [12] (fun a wr=>∃ j:Nat,j≤zs.length∧a=.int .i64 j∧Hg (BnSt w wr w.heap.size (w.heap.size+1) zs j)) (fun a _=>zs.length-(intOf a).toNat)
 case atStart=>exact⟨0,zw _,rfl,H0⟩
 case round =>
  obtain⟨j,hj0,rfl,HS⟩:=hrel;by_cases hj:j<zs.length
  ·have k1:(j:Int)<(zs.length:Int):=by omega
   have k0:(0:Int)≤(j:Int):=by omega
   obtain⟨b,off,hA,hb',s0,s1,s2,s3,s4,s5⟩:=(H.o.later HS.o.below).at hj;subst hA;have HTK:=Hh (show zs.take (j+1)=zs.take j++[zs[j]] from zn hj);have HNI:=Hh (show zs[j].p.name∉(zs.take j).map (·.p.name) from fun hm=>by
    obtain⟨y,hy,e⟩:=zb.1 hm
    obtain⟨i,hi,rfl⟩:=List.getElem_of_mem hy
    simp only[List.length_take] at hi
    have hnd:=HP.o.names
    rw[zW] at hnd
    have:=(List.pairwise_iff_getElem.1 hnd) i j (by simp;omega) (by simpa using hj) (by omega)
    simp at this
    simp only[List.getElem_take] at e
    exact this e)
   have hyl:=zq (mX (HW.o _ (zO hj))) (show 12≤1000000 by decide);generalize zs[j]=y at *;have hb5:=(zB wr.heap.size wr).alloc (zo _) (.cells #[.string ⟨y.p.name.toArray⟩,.slice y.a y.p.refs.length y.cap,.string y.t0,.string y.t1,.bool y.t2,.slice y.t3 y.t4 y.t5] 260);have HY5:=Hh (zK1 wr (.cells #[.string ⟨y.p.name.toArray⟩,.slice y.a y.p.refs.length y.cap,.string y.t0,.string y.t1,.bool y.t2,.slice y.t3 y.t4 y.t5] 260));have HB5:=Hh (HS.o.below.alloc HS.o.below.size (.cells #[.string ⟨y.p.name.toArray⟩,.slice y.a y.p.refs.length y.cap,.string y.t0,.string y.t1,.bool y.t2,.slice y.t3 y.t4 y.t5] 260));have HC5:=Hh ((hb5.block _ (qA HS.o.cell)).trans HS.o.cell);have HM5:=Hh (HS.o.map.of_block (hb5.block _ HS.o.map.lt));have hlo:w.heap.size+1<wr.heap.size:=qA HS.o.cell;clear hb5;go_upto_region 5 with fail;clear s0 s1 s2 s3 s4 s5;generalize wr.alloc (.cells #[.string ⟨y.p.name.toArray⟩,.slice y.a y.p.refs.length y.cap,.string y.t0,.string y.t1,.bool y.t2,.slice y.t3 y.t4 y.t5] 260)=w5 at *;obtain⟨r0,r1,r2,r3⟩:=cq HY5.o;have r4:=ce4 HY5.o;have r5:=ce5 HY5.o;have cc:=ce0 HC5.o;go_wp2_with (at_mapUpdate;refine yR rfl _ _ _ 281 260 rfl okS Tryz.underlying281 rfl HM5.o (by unfold maxLen;omega) y.p.name (by unfold maxLen;omega) rfl (dG y) rfl ?_;intro W6 hmap6 hturn6);refine⟨⟨j+1,hj,by go_num,Hh ⟨?_,?_,?_⟩⟩,by simp[intOf];omega⟩
   ·exact HB5.o.grown hturn6.grown HB5.o.size (fun k hk=>by injection hk with hk;omega)
   ·exact(hturn6.grown.block _ (qA HC5.o) (fun h=>by injection h with h;omega)).trans HC5.o
   ·refine hmap6.congr fun z=>?_
    rw[HTK.o,qGs HNI.o]
  ·have k1:¬ (j:Int)<(zs.length:Int):=by omega
   obtain rfl:j=zs.length:=by omega
   have hm:=HS.o.map;rw[zk] at hm;have HM:=Hh hm;have HALL:=Hh (qKP zs.length w.heap.size (w.heap.size+1) HW.o wr.drew hm HS.o.cell (HN.o.later HS.o.below.drew) hnl HIN.o);have cc:=ce0 HS.o.cell;clear hm;go_upto_region 7 with fail
   go_region_held3 (fun w'=>w'.cell? ⟨w.heap.size+1,0,none⟩=some (.map (some w.heap.size)))
    (first
     | exact cc
     | exact cc'
     | go_keep)
    (first
     | (go_at_call 207;refine HALL.o.mono ?_;rintro ev w7 ⟨rfl,hb7⟩;have cc':w7.cell? ⟨w.heap.size+1,0,none⟩=some (.map (some w.heap.size)):=zJ1 w7 _ 0 _ _ _ ((hb7.block _ (qA HS.o.cell)).trans HS.o.cell))
     | fail)
   have hb8:Below wr.heap.size wr w7:=(zB _ wr).drew.trans (hb7.mono (zo _));have HB8:=Hh hb8;clear cc cc' hb7 hb8;go_wp2;go_ret2;exact⟨_,rfl,HM.o.of_block (HB8.o.block _ HM.o.lt),HS.o.below.trans (HB8.o.mono HS.o.below.size)⟩
theorem qEA {b nn:Nat}{f:List UInt8→Option Value}{w:World}(hm:vM w b nn f)(hnn:nn≤1000000)(m:List (List UInt8))(hr:Stl.Rise m)(hmf:∀ x,x∈m↔(f x).isSome=true) :
  Calls Tryz.prog 192 #[.func (.func 251) #[] #[.pointer (some ⟨w.heap.size,0,none⟩)]] (w.alloc (.cells #[.map (some b)] 284)) fun e w'=>∃ v:Value,e=.returned v ∧
   w'.ownsRow (w.alloc (.cells #[.map (some b)] 284)).heap.size 9 1 v m.length (m.map encStr)∧Below (w.alloc (.cells #[.map (some b)] 284)).heap.size (w.alloc (.cells #[.map (some b)] 284)) w':=by
 obtain⟨D,hown,hD⟩:=hm;have hbl:=hown.lt;have hsz:=hown.size_le;have hseq:SeqGives Fence.wide 2 Tryz.prog 251 #[.pointer (some ⟨w.heap.size,0,none⟩)] encStr (fun ss=>ss.Perm (strKeys D)) (Maps.size D) (w.alloc (.cells #[.map (some b)] 284)) :=
  AnyZ.keys_gives (ρ:=Tryz.keysMSB_ren) { Tryz.keysMSB with } Fence.wide _ trivial rfl (by omega) w.heap.size b nn D _ (by simp) (by simp) (by
   obtain⟨es,clock,hb,Ft,hs,hD⟩:=hown
   exact⟨es,clock,(Below.heap_alloc _ _ b hbl).trans hb,Ft,hs,hD⟩)
 refine(zI1.1 (AnyZ.sorted_in Tryz.sortedS Fence.wide 5 trivial trivial trivial trivial rfl (by omega) (qFv _) (enters_of Tryz.func173 (by kernel_rfl) rfl) 251 #[.pointer (some ⟨w.heap.size,0,none⟩)] trivial (enters_of Tryz.func251 (by kernel_rfl) rfl) _ _ (by unfold maxLen;omega) (by omega) _ hseq)).mono ?_;rintro e w' ⟨v,ss,rfl,hss,hrow,_,hb⟩;have h2:∀ x,Maps.has D (.string x)=true↔x∈m:=fun x=>by rw[hmf,← hD.has_eq x];rfl
 have hms:ss.mergeSort (fun x y=>decide (x≤y))=m:=by
  obtain⟨es,hE,hpw,_⟩:=hown.entries (Go.Maps.string_keyed Tryz.underlying9);obtain⟨es',hE',hko⟩:=hown.keysOf;obtain rfl:es=es':=by rw[hE] at hE';simpa using hE'
  subst hE;have hnd:m.Nodup:=List.Pairwise.imp (R:=(·<·)) (S:=(·≠·)) (fun {a b} h (e:a=b)=>Stl.blt_irrefl a (e▸h)) hr;have hp:m.Perm (strKeys (.map es:DataW Value)):=perm_strKeys hpw (fun p hp=>by obtain⟨v,hv⟩:=hko p hp;obtain⟨x,_,hx,_⟩:=Maps.keyOf_str Tryz.underlying9 hv;exact⟨x,hx⟩) hnd (fun x=>by rw[h2]);rw[show (fun x y:List UInt8=>decide (x≤y))=leB from rfl,mergeSort_of_perm (hss.trans hp.symm)];refine List.mergeSort_of_pairwise (hr.imp fun h=>?_);simpa using List.le_of_lt h
 have hlen:ss.length=m.length:=by rw[← hms,List.length_mergeSort]
 rw[hms,hlen] at hrow;exact⟨v,rfl,hrow,hb⟩
theorem qKK (a:Addr)(cap:Nat)(w:World) :
  Calls Tryz.prog 69 #[.slice (some a) 0 cap] w fun ev w'=>∃ A' cap',ev=.returned (.slice A' 0 cap')∧w'.ownsRow w.heap.size 9 1 (.slice A' 0 cap') 0 []∧Below w.heap.size w w':=by
 obtain⟨i,hi,hz0,hz1,hz2⟩:=mY.info;have t43:Tryz.prog.underlying 22=some (.slice 9):=by kernel_rfl
 have q43:∀ (w:World) (a:Option Addr) (n c:Nat),(binOp .eql 22 (.slice a n c) (.slice none 0 0)).run Tryz.prog w=.ok (.bool a.isNone) w:=fun w a n c=>Lib.run_eql_slice_nil w _ _ a n c 0 0 t43
 have u43:∀ w,Sem.run Tryz.prog (underlying 22) w=.ok (TypeDesc.slice 9) w:=run_underlying t43;go_enter Tryz.func69,Tryz.ntmps69;go_wp2_with (at_builtin;refine wpList_append_own _ rfl _ _ 22 rfl w.heap.size 9 i _ 1 16 t43 hi hz0 hz1 hz2 rfl (by decide) _ _ _ rfl (World.ownsRow_made w #[] 0 (zo _) (zw _) rfl) a 0 cap [] rfl rfl (by intro j u hj;simp at hj) (by intro u hu;cases hu) (by unfold maxLen;omega) (by omega) (by simp) ?_);intro v' w1 hown hgrow hnil;obtain⟨A',cap',rfl⟩:=Stl.owns_slice _ hown;go_wp2;go_ret;refine⟨A',cap',rfl,by simpa using hown,?_⟩;exact((zB _ w).alloc (zo _) _).grown hgrow (by simp) (by intro k hk;simp[Value.ownBlock] at hk;omega)
theorem nT {w:World}{A:Option Addr}{c:Nat}{l:List (List UInt8)}(h:Strs w (.slice A l.length c) l)(hl:l.length≤1000000) :
  Calls Tryz.prog 69 #[.slice A l.length c] w fun ev w'=>∃ A' c',ev=.returned (.slice A' l.length c')∧w'.ownsRow w.heap.size 9 1 (.slice A' l.length c') l.length (l.map encStr)∧Below w.heap.size w w':=by
 obtain⟨A2,c2,e1,h1⟩:=h;injection e1 with e1 e2 e3
 subst e1 e3;obtain⟨i,hi,hz0,hz1,hz2⟩:=mY.info;by_cases hn:l=[]
 ·subst hn
  cases A with
  | none =>
   refine(AnyE.slices_Clone_nil Tryz.cloneS 0 c w).mono ?_;rintro ev w' ⟨rfl,rfl⟩;exact⟨none,0,rfl,zF1 _ _ _ _,zB _ _⟩
  | some ad=>exact qKK ad c w
 ·obtain⟨b,off,rfl,hb,hc⟩:=h1 hn;refine(AnyE.slices_Clone Tryz.cloneS i _ 1 16 hi hz0 hz1 hz2 rfl (by decide) (gB mY) b off l.length c (l.map encStr) w (by simp) (by unfold maxLen;omega) (by omega) (fun j u hu=>by
   rw[zN] at hu
   cases hx:l[j]? with
   | none=>rw[hx] at hu;cases hu
   | some x =>
    rw[hx] at hu
    simp only[zA1,zB1] at hu
    rw[← hu]
    exact hc j x hx) (fun u hu=>by obtain⟨x,_,rfl⟩:=zb.1 hu;rfl)).mono ?_
  rintro ev w' ⟨v',rfl,h5,_,h6⟩;obtain⟨A',cap',rfl⟩:=Stl.owns_slice _ h5;exact⟨A',cap',rfl,h5,h6⟩
theorem qK0 {w:World}{base base':Nat}{e:TypeId}{size:Nat}{v:Value}{n:Nat}{xs:List Value}(h:w.ownsRow base e size v n xs)(hb:base'≤base):w.ownsRow base' e size v n xs:=by
 refine⟨h.1,?_⟩
 rcases h.2 with h1 | ⟨g,cap,cur,h1,h2,h3⟩
 ·exact .inl h1
 ·exact .inr ⟨g,cap,cur,h1,zq hb h2,h3⟩
theorem qOe {w:World}{A:Option Addr}{c:Nat}{l:List (List UInt8)}(h:Strs w (.slice A l.length c) l):Src Tryz.prog 1 22 (.slice A l.length c) l.length (l.map encStr) w:=by
 obtain⟨A2,c2,e1,h1⟩:=h;injection e1 with e1 e2 e3
 subst e1 e3
 cases A with
 | none =>
  have:l=[]:=by
   by_cases hn:l=[]
   ·exact hn
   ·obtain⟨b,off,e,_⟩:=h1 hn
    cases e
  subst this;exact Src.ofNil w Tryz.underlying22 c
 | some ad =>
  refine Src.ofSlice w Tryz.underlying22 ad l.length c _ (by simp) (fun j u hu=>?_) (fun u hu=>by obtain⟨x,_,rfl⟩:=zb.1 hu;rfl);rw[zN] at hu
  cases hx:l[j]? with
  | none=>rw[hx] at hu;cases hu
  | some x =>
   rw[hx] at hu;simp only[zA1,zB1] at hu;obtain⟨b,off,e,_,hc⟩:=h1 (by intro e;rw[e] at hx;simp at hx);injection e with e
   subst e;rw[← hu];have:=hc j x hx;by_cases hj:j=0
   ·subst hj;exact this
   ·simpa[Addr.add,hj] using this
def kP (seen:List UInt8→Bool)(x:List UInt8):Option Value:=if seen x=true then some (.bool true) else none
structure ClSt (w wr:World)(B bm bs:Nat)(zs:List PX)(names:List (List UInt8))(seen:List UInt8→Bool)(xs:List (List UInt8))(A:Option Addr)(n c cnt:Nat):Prop where
 below:Below w.heap.size w wr
 packs:vM wr bm zs.length (mT zs)
 set:vM wr bs cnt (kP seen)
 queue:QueueAt wr (fun k=>B≤k) A n c (xs.map encStr)
 clos:oS (zs.map (·.p)) names seen xs
 count:cnt+gW (zs.map (·.p)) seen≤zs.length
 short:n=xs.length∧n+20*gW (zs.map (·.p)) seen≤names.length+20*zs.length
 bs:bs<B∧bm<bs∧w.heap.size≤bs
 size:B≤wr.heap.size
noncomputable def seenIn (wr:World)(bs:Nat)(x:List UInt8):Bool:=@decide ((Instr.lookup 284 (.map (some bs)) (.string ⟨x.toArray⟩) true).run Tryz.prog wr=.ok (.tuple #[.bool true,.bool true]) wr) (Classical.propDecidable _)
theorem qKU {wr:World}{bs cnt:Nat}{seen:List UInt8→Bool}(hm:vM wr bs cnt (kP seen)){x:List UInt8}(hx:x.length≤1000000):seenIn wr bs x=seen x:=by
 have hlk:=hm.getOk (t:=284) okS Tryz.underlying284 (qEi wr) (i:=x) (by unfold maxLen;omega);simp only[mkS] at hlk;unfold seenIn;rw[hlk];unfold kP
 cases hs:seen x<;>simp
theorem qCP {wr:World}{bs cnt:Nat}{seen:List UInt8→Bool}(hm:vM wr bs cnt (kP seen)){l:List Pk}(hl:∀ p∈l,p.name.length≤1000000):gW l (seenIn wr bs)=gW l seen:=by
 unfold gW;congr 1;exact List.filter_congr fun p hp=>by rw[qKU hm (hl p hp)]
def lenOf:Value→Nat
 | .slice _ n _=>n
 | _=>0
def qOr (w:World)(l:List Pk)(names:List (List UInt8))(ev:Ending)(w':World):Prop:=∃ v,ev=.returned (.tuple #[v,.nilIface])∧w'.ownsRow w.heap.size 9 1 v (closure l names).length ((closure l names).map encStr)∧Below w.heap.size w w'
def qHg (w:World)(res:List (List UInt8))(ev:Ending)(w':World):Prop:=∃ v,ev=.returned (.tuple #[v,.nilIface])∧w'.ownsRow w.heap.size 9 1 v res.length (res.map encStr)∧Below w.heap.size w w'
theorem qCx {w:World}{A:Option Addr}{zs:List PX}(h:PacksAt w A zs)(hP:nY (zs.map (·.p)))(cap:Nat)(hcap:zs.length≤cap){An:Option Addr}{cn:Nat}{names:List (List UInt8)}(hn:Strs w (.slice An names.length cn) names)(hnl:names.length≤1000)(hin:∀ x∈names,x∈zs.map (·.p.name)) :
  Calls Tryz.prog 135 #[.slice A zs.length cap,.slice An names.length cn] w (qOr w (zs.map (·.p)) names):=by
 have hmm:=@run_makeMap Tryz.prog;have HP:=Hh hP;have H:=Hh h;have HN:=Hh hn;have HIN:=Hh hin;have hmany:zs.length≤40:=by have:=hP.many;simpa using this
 have HCK:=Hh (qEQ h hP cap hcap);clear hP h hn hin;go_enter Tryz.func135,Tryz.ntmps135;go_upto_region 7 with (first
  | (go_at_call 190;refine HCK.o.mono ?_;rintro ev w2 ⟨rfl,hb2⟩;have HB2:=Hh hb2;clear hb2)
  | (go_at_call 191;refine(qEU (H.o.later HB2.o) HP.o cap (HN.o.later HB2.o) (by omega) HIN.o).mono ?_;rintro ev w3 ⟨bm,rfl,hm3,hb3⟩;have HM3:=Hh hm3;have HB3:=Hh hb3;clear hm3 hb3)
  | fail)
 have hb4:=(zB w3.heap.size w3).alloc (zo _) (.map #[] 0);have hbms:bm<w3.heap.size:=HM3.o.lt;have hws:w.heap.size≤w3.heap.size:=zq HB2.o.size HB3.o.size;have HB4:=Hh ((HB2.o.trans (HB3.o.mono HB2.o.size)).alloc hws (.map #[] 0));have HM4:=Hh (HM3.o.of_block (hb4.block _ HM3.o.lt));have HS4:=Hh (zzMapAt.made w3 Tryz.prog 9 oB);have HZ4:=Hh (show (w3.alloc (.map #[] 0)).heap.size=w3.heap.size+1 by simp);clear hb4;go_upto_region 8 with fail;generalize w3.alloc (.map #[] 0)=w4 at *;generalize hq:w3.heap.size=bs at *;clear hq;have hbs4:bs<w4.heap.size:=by have:=HZ4.o;omega
 have HCL:=Hh (nT (HN.o.later HB4.o) (by omega));go_upto_region 9 with (go_at_call 69;refine HCL.o.mono ?_;rintro ev w5 ⟨A5,c5,rfl,hown5,hb5⟩;have HO5:=Hh hown5;have HB5:=Hh hb5;clear hown5 hb5);have HSH:=Hh (show ∀ p∈zs.map (·.p),p.name.length≤1000000 from fun p hp=>zq (mX (HP.o.well p hp)) (by decide));have hun0:gW (zs.map (·.p)) (fun _=>false)≤zs.length:=by
  unfold gW;refine zq (zS _ _) ?_;simp
 have H0:=Hh (show ClSt w w5 w4.heap.size bm bs zs names (fun _=>false) names A5 names.length c5 0 from
  ⟨HB4.o.trans (HB5.o.mono HB4.o.size),HM4.o.of_block (HB5.o.block _ HM4.o.lt),(HS4.o.of_block (HB5.o.block _ HS4.o.lt)).congr (fun x=>rfl),QueueAt.of_owns HO5.o,qIj _ _,by rw[zv];exact hun0,⟨rfl,Nat.add_le_add_left (Nat.mul_le_mul_left 20 hun0) _⟩,⟨hbs4,hbms,hws⟩,HB5.o.size⟩)
 clear hun0;generalize w4.heap.size=B at *
 go_loopw [10] (fun a wr=>∃ (A:Option Addr) (n c cnt:Nat) (xs:List (List UInt8)) (seen:List UInt8→Bool),a=.slice A n c∧Hg (ClSt w wr B bm bs zs names seen xs A n c cnt)) (fun a wr=>lenOf a+21*gW (zs.map (·.p)) (seenIn wr bs))
 case atStart=>exact⟨_,_,_,_,_,_,rfl,H0⟩
 case round =>
  obtain⟨Aq,n,cq,cnt,xs,seen,rfl,HS⟩:=hrel;have hun:=qCP HS.o.set HSH.o;have HUN:=Hh hun;clear hun;have hn0:=HS.o.short.1;have hn1:=HS.o.short.2;have hn2:=HS.o.count;obtain⟨hb1,hb2,hb3⟩:=HS.o.bs;have hb4:=HS.o.size
  cases xs with
  | nil =>
   obtain rfl:n=0:=hn0;have HSR:=Hh (qEA HS.o.set (by omega) (closure (zs.map (·.p)) names) (qB5 _ _) (fun x=>by
    rw[← qMj HS.o.clos x]
    unfold kP
    cases seen x<;>simp))
   clear hn1 hn2;go_wp2_with (first
    | (go_at_call 193;refine(qHs _ _).mono ?_;rintro e w' ⟨rfl,rfl⟩)
    | (go_at_call 192;refine HSR.o.mono ?_;rintro ev w7 ⟨v,rfl,hrow,hb7⟩)
    | fail)
   go_ret2;have hbl:=HS.o.below;have hsz:=hbl.size;exact⟨v,rfl,qK0 hrow (by simp;omega),hbl.trans (((zB _ wr).alloc (zo _) _).trans (hb7.mono (by simp)) |>.mono hsz)⟩
  | cons s r =>
   simp only[zQ] at hn0;subst hn0;have hq:=HS.o.queue;simp only[zV] at hq;obtain⟨qb,qo,rfl,qc,qlt,qO,hq2⟩:=hq.head;obtain⟨A2,hA2,hqA⟩:∃ A2,(if cq=1 then some (⟨qb,qo,none⟩:Addr) else some ⟨qb,qo+1,none⟩)=A2∧QueueAt wr (fun k=>B≤k) A2 r.length (cq-1) (r.map encStr):=by
    refine⟨_,rfl,?_⟩;by_cases hc1:cq=1
    ·have hl:=hq2.len;simp only[zT] at hl;have hr0:r=[]:=zR.1 (by omega);subst hr0 hc1;exact⟨0,0,⟨zo _,fun h=>by omega,fun h=>by omega,rfl,fun j u hu=>by simp at hu,fun j hj=>by omega⟩,fun h=>by omega,by decide⟩
    ·rw[zL1 hc1];exact hq2
   have HQ2:=Hh hqA;have hsm:s∈closure (zs.map (·.p)) names:=HS.o.clos.in_todo s (by simp);have hsz:s∈zs.map (·.p.name):=by
    have:=qAM HP.o.refs (names:=names) (fun x hx=>by have:=HIN.o x hx;rw[zW];exact this) s hsm
    rwa [zW] at this
   obtain⟨y,hy,hys,hyq⟩:=qDH hsz;have hyp:y.p∈zs.map (·.p):=zb.2 ⟨y,hy,rfl⟩;have hslen:s.length≤1000000:=by rw[← hys];exact HSH.o _ hyp
   have qc':wr.cell? ⟨qb,qo,none⟩=some (.string ⟨s.toArray⟩):=qc;have hlk:=HS.o.set.get (t:=284) okS Tryz.underlying284 (qEi wr) (i:=s) (by unfold maxLen;omega);simp only[mkS] at hlk;have i1:(0:Int)<(r.length:Int)+1:=by omega
   have i2:(1:Int)≤(r.length:Int)+1:=by omega
   have HYP:=Hh hyp;have HYS:=Hh hys;have HYM:=Hh hy;clear qc hq2 hq hsm hsz qO hyp hys hy hqA
   cases hse:seen s with
   | true =>
    have hv:kP seen s=some (.bool true):=by unfold kP;rw[zM1 hse]
    rw[hv] at hlk;simp only[zx] at hlk;have HSE:=Hh hse;clear hv hse;go_wp2;go_roundw
    case rel=>exact⟨_,r.length,cq-1,cnt,r,seen,rfl,Hh ⟨HS.o.below,HS.o.packs,HS.o.set,HQ2.o,qJl HS.o.clos HSE.o,HS.o.count,⟨rfl,by omega⟩,HS.o.bs,HS.o.size⟩⟩
    case measure=>simp[lenOf]
   | false =>
    have hv:kP seen s=none:=by unfold kP;rw[zL1 (by rw[hse];decide)]
    rw[hv] at hlk;simp only[Option.getD_none] at hlk;have HSE:=Hh hse;have HMS:=Hh HS.o.set;clear hv hse;go_upto_region 14 with (at_mapUpdate;refine yR rfl _ _ _ 284 4 rfl okS Tryz.underlying284 rfl HMS.o (by unfold maxLen;omega) s (by unfold maxLen;omega) rfl (.bool true) rfl ?_;intro W6 hmap6 hturn6;have HMP6:=Hh hmap6;have HTN6:=Hh hturn6;clear hmap6 hturn6);have hsz6:=HTN6.o.grown.size;have HPK6:=Hh (HS.o.packs.of_block (HTN6.o.grown.block bm (by omega) (fun h=>by injection h with h;omega)));have hlk2:=HPK6.o.get (t:=281) okS Tryz.underlying281 (qHu W6) (i:=s) (by unfold maxLen;omega);simp only[mkS] at hlk2;rw[hyq] at hlk2;simp only[zx,dG] at hlk2;have hf1:=qIQ;have HB6:=Hh (HS.o.below.grown HTN6.o.grown HS.o.below.size (fun k hk=>by injection hk with hk;omega));have HQ6:=Hh (HQ2.o.go (O':=fun k=>B≤k) hsz6 (fun b hb hO=>⟨HTN6.o.grown.block b hb (fun h=>by injection h with h;omega),hO⟩));have hfew:=HP.o.few _ HYP.o;obtain⟨i,hi,hz0,hz1,hz2⟩:=mY.info;obtain⟨A7,c7,w7,happ,hq7,hk7⟩:=HQ6.o.app (ty:=22) Tryz.underlying22 hi hz0 hz1 hz2 rfl (.slice y.a y.p.refs.length y.cap) y.p.refs.length (y.p.refs.map encStr) (qOe ((H.o.refs y HYM.o).2.later HB6.o)) (by unfold maxLen;omega) (by omega);have HQ7:=Hh hq7;have HK7:=Hh hk7;clear hq7 hk7 hi hz0 hz1 hz2 hyq hlk qc';go_wp2_with (at_builtin;refine qAp rfl _ _ 22 22 rfl rfl rfl happ ?_);go_roundw
    case rel =>
     have hul:=qC6 (l:=zs.map (·.p)) HYP.o HYS.o HSE.o;have hBW:B≤W6.heap.size:=by omega
     refine⟨A7,r.length+y.p.refs.length,c7,cnt+1,r++y.p.refs,vZ seen s,rfl,Hh ⟨?_,?_,?_,?_,?_,?_,⟨?_,?_⟩,HS.o.bs,?_⟩⟩
     ·exact HB6.o.trans ((HK7.o.below hBW).mono (by omega))
     ·exact HPK6.o.of_block (HK7.o.block bm (by omega) (by omega))
     ·refine(HMP6.o.congr (g:=kP (vZ seen s)) (fun x=>?_)).of_block (HK7.o.block bs (by omega) (by omega));unfold kP vZ;by_cases hx:x=s
      ·simp[hx]
      ·simp[hx]
     ·have h:=HQ7.o.mono (O':=fun k=>B≤k) (fun b _ hO=>by rcases hO with h | h<;>omega);rw[zU];exact h
     ·exact qMY HP.o HS.o.clos HYP.o HYS.o
     ·omega
     ·simp
     ·omega
     ·exact zq hBW HK7.o.size
    case measure =>
     have hul:=qC6 (l:=zs.map (·.p)) HYP.o HYS.o HSE.o;have h7:=qCP (wr:=w7) (bs:=bs) (cnt:=cnt+1) (seen:=vZ seen s) ((HMP6.o.congr (g:=kP (vZ seen s)) (fun x=>by
      unfold kP vZ
      by_cases hx:x=s
      ·simp[hx]
      ·simp[hx])).of_block (HK7.o.block bs (by omega) (by omega))) HSH.o
     rw[h7,HUN.o];simp only[lenOf];omega
def KeptAt (w:World)(A:Option Addr)(zs:List PkX):Prop :=
 zs≠[]→∃ b,A=some ⟨b,0,none⟩∧b<w.heap.size∧∀ (j:Nat) u,(zs.flatMap yF)[j]?=some u→w.cell? ⟨b,j,none⟩=some u
section
variable {w w2:World}{A:Option Addr}{zs:List PkX}
theorem KeptAt.later (h:KeptAt w A zs)(hb:Below w.heap.size w w2):KeptAt w2 A zs:=fun hn=>by
 obtain⟨b,h1,h2,h3⟩:=h hn;exact⟨b,h1,zt h2 hb.size,fun j u hu=>(hb.cell (p:=⟨b,j,none⟩) h2).trans (h3 j u hu)⟩
theorem KeptAt.at (h:KeptAt w A zs){j:Nat}(hj:j<zs.length):∃ b,A=some ⟨b,0,none⟩∧b<w.heap.size ∧
  w.cell? ⟨b,j*3,none⟩=some (.string ⟨zs[j].p.name.toArray⟩)∧w.cell? ⟨b,j*3+1,none⟩=some (.slice zs[j].a zs[j].p.refs.length zs[j].cap)∧w.cell? ⟨b,j*3+2,none⟩=some (.int .i64 zs[j].p.k):=by
 obtain⟨b,h1,h2,h3⟩:=h (fun e=>by rw[e] at hj;simp at hj);refine⟨b,h1,h2,?_,?_,?_⟩
 ·have:=h3 (j*3+0) _ (pZ zs j hj 0 (by omega));simpa using this
 ·exact h3 (j*3+1) _ (pZ zs j hj 1 (by omega))
 ·exact h3 (j*3+2) _ (pZ zs j hj 2 (by omega))
theorem qF8 {c:Nat→Col}{cap:Nat}{x:Col}(h:RowAt w c x 150 3 (.slice A zs.length cap) zs.length (zs.flatMap yF)):KeptAt w A zs:=fun hn=>by
 have h0:0<zs.length:=by
  cases zs with
  | nil=>exact absurd rfl hn
  | cons=>simp
 obtain⟨g,cp,e,_,hg,_⟩:=h.pos h0;injection e with e1 e2 e3
 subst e1;refine⟨g,rfl,hg,fun j u hu=>?_⟩;have hj:=(zM.1 hu).1;rw[yY] at hj;rw[h.1.cellAt j hj];exact hu
structure StoX (w:World)(c:Nat→Col)(b:Nat)(s:Sto)(bd:Nat)(A:Option Addr)(cap:Nat)(zs:List PkX)(R:Option Addr)(rc:Nat)(tp:Nat):Prop where
 own:w.heap[b]?=some (.cells #[.pointer (some ⟨bd,0,none⟩),.slice A zs.length cap,.slice R s.roots.length rc,.pointer (some ⟨tp,0,none⟩)] 59 (0,0))
 col:c b=.sto
 dirs:DirsAt w c bd s.d
 packs:RowAt w c .stoL 150 3 (.slice A zs.length cap) zs.length (zs.flatMap yF)
 eq:zs.map (·.p)=s.l
 ro:∀ x∈zs,x.p.refs.length≤x.cap∧RoStrs w c x.a x.p.refs
 roots:RowAt w c .roots 9 1 (.slice R s.roots.length rc) s.roots.length (s.roots.map encStr)
section
variable {c c2:Nat→Col}{S:Col→Bool}{b:Nat}{s:Sto}{bd:Nat}{cap:Nat}{R:Option Addr}{rc tp:Nat}
theorem StoAt.open (h:StoAt w c b s tp):∃ bd A cap zs R rc,StoX w c b s bd A cap zs R rc tp:=by
 obtain⟨bd,vl,vr,cs,h⟩:=h;obtain⟨A,cap,zs,rfl,e1,e2,rfl,e4⟩:=h.kept;obtain⟨R,rc,rfl⟩:=h.roots.slice;exact⟨bd,A,cap,zs,R,rc,h.own,h.col,h.dirs,by have:=h.packs;rwa [← e2] at this,e1,e4,h.roots⟩
theorem StoX.shut (h:StoX w c b s bd A cap zs R rc tp):StoAt w c b s tp:=by
 have e:s.l.length=zs.length:=by rw[← h.eq,zT]
 refine⟨bd,_,_,zs.flatMap yF,h.own,h.col,h.dirs,by rw[e];exact h.packs,by rw[← h.eq];exact PksCells.shut h.ro,h.roots⟩
theorem StoX.len (h:StoX w c b s bd A cap zs R rc tp):zs.length=s.l.length:=by rw[← h.eq,zT]
theorem StoX.ext (h:StoX w c b s bd A cap zs R rc tp)(e:Ext w w2 c c2 S)(h0:S .ro=false)(h1:∀ x,oY x=true→S x=false):StoX w2 c2 b s bd A cap zs R rc tp :=
 ⟨(e.kept h.own h.col (h1 _ rfl)).1,(e.kept h.own h.col (h1 _ rfl)).2,h.dirs.ext e h0 (fun x hx=>h1 x (by cases x<;>first | exact hx | (cases hx))),h.packs.ext e (h1 _ rfl),h.eq,fun x hx=>⟨(h.ro x hx).1,(h.ro x hx).2.ext e h0⟩,h.roots.ext e (h1 _ rfl)⟩
theorem StoX.below (h:StoX w c b s bd A cap zs R rc tp)(hb:Below w.heap.size w w2):StoX w2 c b s bd A cap zs R rc tp:=h.ext (Ext.of_below hb c S0) rfl (fun _ _=>rfl)
theorem StoX.kept (h:StoX w c b s bd A cap zs R rc tp):KeptAt w A zs:=qF8 h.packs
end
def FindIs (zs:List PkX)(name:List UInt8)(i:Int):Prop:=(i=-1∧∀ x∈zs,x.p.name≠name)∨∃ (k:Nat) (hk:k<zs.length),i=(k:Int)∧zs[k].p.name=name
theorem FindIs.none_ {l:List Pk}{name:List UInt8}{i:Int}(h:FindIs zs name i)(e:zs.map (·.p)=l):(l.find? fun p=>p.name==name)=none↔i<0:=by
 subst e
 rcases h with ⟨rfl,h⟩ | ⟨k,hk,rfl,h⟩
 ·simp only[show (-1:Int)<0 by decide,iff_true];rw[List.find?_eq_none];intro p hp;obtain⟨x,hx,rfl⟩:=zb.1 hp;simpa using h x hx
 ·constructor
  ·intro h2;have:=List.find?_eq_none.1 h2 zs[k].p (zb.2 ⟨_,zO hk,rfl⟩);simp[h] at this
  ·omega
theorem FindIs.some_ {l:List Pk}{name:List UInt8}{i:Int}(h:FindIs zs name i)(e:zs.map (·.p)=l)(hn:(l.map (·.name)).Nodup){p:Pk}(hp:(l.find? fun p=>p.name==name)=some p):∃ (k:Nat) (hk:k<zs.length),i=(k:Int)∧zs[k].p=p:=by
 subst e
 rcases h with ⟨rfl,h⟩ | ⟨k,hk,rfl,h⟩
 ·obtain⟨h1,h2⟩:=wU hp;obtain⟨x,hx,rfl⟩:=zb.1 h1;exact absurd h2 (h x hx)
 ·obtain⟨h1,h2⟩:=wU hp;exact⟨k,hk,rfl,yI (fun z:Pk=>z.name) hn (zb.2 ⟨_,zO hk,rfl⟩) h1 (h.trans h2.symm)⟩
theorem qIR (x:PkX)(name:List UInt8)(bx:Nat)(w:World)(hbx:w.heap[bx]?=some (.cells #[.string ⟨name.toArray⟩] 9 (0,0))) :
  Calls Tryz.prog 150 #[.agg #[.string ⟨x.p.name.toArray⟩,.slice x.a x.p.refs.length x.cap,.int .i64 x.p.k],.pointer (some ⟨bx,0,none⟩)] w fun e w'=>e=.returned (.bool (x.p.name==name))∧Below w.heap.size w w':=by
 have hb:=(zB w.heap.size w).alloc (zo _) (.cells #[.string ⟨x.p.name.toArray⟩,.slice x.a x.p.refs.length x.cap,.int .i64 x.p.k] 150);have HB:=Hh hb;have d0:=(hb.cell (p:=⟨bx,0,none⟩) (qA hbx)).trans (zJ1 w bx 0 _ _ _ hbx);have HX:=Hh (zK1 w (.cells #[.string ⟨x.p.name.toArray⟩,.slice x.a x.p.refs.length x.cap,.int .i64 x.p.k] 150));clear hbx hb;go_enter Tryz.func150,Tryz.ntmps150;go_upto_region 1 with fail;generalize w.alloc (.cells #[.string ⟨x.p.name.toArray⟩,.slice x.a x.p.refs.length x.cap,.int .i64 x.p.k] 150)=w1 at *;have q0:=ce0 HX.o;have d0':w1.cell? ⟨bx,0,none⟩=some (.string ⟨name.toArray⟩):=d0;clear d0
 cases hq:x.p.name==name with
 | false =>
  have HQ:=Hh hq;go_wp2;go_ret;exact⟨by rw[HQ.o];rfl,HB.o⟩
 | true =>
  have HQ:=Hh hq;go_wp2;go_ret;exact⟨by rw[HQ.o];rfl,HB.o⟩
theorem qGG (cap:Nat)(name:List UInt8)(bx:Nat)(w:World)(h:KeptAt w A zs)(hz:zs.length≤1000000)(hbx:w.heap[bx]?=some (.cells #[.string ⟨name.toArray⟩] 9 (0,0))) :
  Calls Tryz.prog 149 #[.slice A zs.length cap,.func (.func 150) #[] #[.pointer (some ⟨bx,0,none⟩)]] w fun e w'=>(∃ i:Int,e=.returned (.int .i64 i)∧FindIs zs name i)∧Below w.heap.size w w':=by
 have H:=Hh h;have HBX:=Hh hbx;clear h hbx;go_enter Tryz.func149,Tryz.ntmps149;go_wp2_with fail
 go_loopw [8] (fun a wr=>Below w.heap.size w wr∧∃ k:Nat,k≤zs.length∧a=.int .i64 k∧Hg (∀ x∈zs.take k,x.p.name≠name)) (fun a _=>zs.length-(intOf a).toNat)
 case atStart=>exact⟨zB _ _,0,zw _,rfl,Hh (by simp)⟩
 case round =>
  obtain⟨hb,k,hk,rfl,HP⟩:=hrel;have HB:=Hh hb;clear hb;by_cases hkn:k<zs.length
  ·have i1:(k:Int)<(zs.length:Int):=by omega
   have i2:(0:Int)≤(k:Int):=by omega
   obtain⟨b,rfl,hlt,s0,s1,s2⟩:=(H.o.later HB.o).at hkn;have HX:=Hh (show zs.take (k+1)=zs.take k++[zs[k]] from zn hkn);have HM:=Hh (show zs[k]?=some zs[k] from zL hkn);have HF:=Hh (fun wz=>qIR zs[k] name bx wz);have HBX2:=Hh ((HB.o.block _ (qA HBX.o)).trans HBX.o);generalize zs[k]=x at *;go_upto_region 5 with fail;refine(HF.o _ HBX2.o).mono ?_;rintro e w2 ⟨rfl,hb2⟩;have HB2:=Hh (HB.o.trans (hb2.mono HB.o.size));clear hb2 s0 s1 s2
   cases hq:x.p.name==name
   ·have HQ:=Hh (show x.p.name≠name from fun e=>by simp[e] at hq);clear hq;go_wp2;go_roundw
    case rel =>
     refine⟨HB2.o,k+1,hkn,rfl,Hh ?_⟩;intro y hy;rw[HX.o] at hy
     rcases zX.1 hy with hy | hy
     ·exact HP.o y hy
     ·rw[zg.1 hy];exact HQ.o
    case measure=>simp[intOf];omega
   ·have HQ:=Hh (show x.p.name=name from by simpa using hq);clear hq;go_wp2;go_ret;refine⟨⟨_,rfl,.inr ⟨k,hkn,rfl,?_⟩⟩,HB2.o⟩;have:=HM.o;rw[zL hkn] at this;injection this with this
    rw[this,HQ.o]
  ·have i1:¬ (k:Int)<(zs.length:Int):=by omega
   go_wp2;go_ret;refine⟨⟨_,rfl,.inl ⟨rfl,?_⟩⟩,HB.o⟩;have:=HP.o
   rwa [zm (by omega)] at this
theorem gR {c:Nat→Col}{b:Nat}{s:Sto}{bd:Nat}{cap:Nat}{R:Option Addr}{rc tp:Nat}(h:StoX w c b s bd A cap zs R rc tp)(hz:zs.length≤1000000)(name:List UInt8) :
  Calls Tryz.prog 97 #[.pointer (some ⟨b,0,none⟩),.string ⟨name.toArray⟩] w fun e w'=>(∃ i:Int,e=.returned (.int .i64 i)∧FindIs zs name i)∧Below w.heap.size w w':=by
 have hb:=(zB w.heap.size w).alloc (zo _) (.cells #[.string ⟨name.toArray⟩] 9);have c1:(w.alloc (.cells #[.string ⟨name.toArray⟩] 9)).cell? ⟨b,1,none⟩=some (.slice A zs.length cap):=(hb.cell (p:=⟨b,1,none⟩) (qA h.own)).trans (zJ1 w b 1 _ _ _ h.own);have HI:=Hh (qGG cap name w.heap.size (w.alloc (.cells #[.string ⟨name.toArray⟩] 9)) (h.kept.later hb) hz (zK1 w _));have HB:=Hh hb;clear h hb;go_enter Tryz.func97,Tryz.ntmps97;go_wp2_with (go_at_call 149;refine HI.o.mono ?_;rintro e w' ⟨⟨i,rfl,hi⟩,hb2⟩;have HFI:=Hh hi;have HB2:=Hh hb2;clear hi hb2);go_ret;exact⟨⟨i,rfl,HFI.o⟩,HB.o.trans (HB2.o.mono HB.o.size)⟩
end
end Go.Proofs.YtbmkaekimccdgaaGreatDoor
