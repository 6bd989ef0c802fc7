/- Lemmas. -/
import Derived.Shelf.AbstractIn
import Derived.Test.YtbmkaekimccdgaaGreatDoorBm06
import Derived.Test.YtbmkaekimccdgaaGreatDoorBm25
set_option maxHeartbeats 16000000
set_option maxRecDepth 1000000
set_option linter.all false
namespace Go.Proofs.YtbmkaekimccdgaaGreatDoor
open Go.RowKit Go.Maps Go.Sort Go.Shelf Stl
theorem qCH {w:World}{b n:Nat}{D:DataW Value}{f:Nat→Option Value}(h:w.ownsMap Tryz.prog 3 wK b n D)(hM:MapIs dY D f){l:List Nat}(hs:l.Pairwise (·<·))(hm:∀ k,k∈l↔(f k).isSome=true){ss:List Int}(hp:ss.Perm (intKeys D)) :
  ss.mergeSort leI=l.map fun k:Nat=>(k:Int):=by
 obtain⟨es,rfl,hpw,hk⟩:=h.entries okN.keyed;have hk2:∀ p∈es,∃ x,p.1=.int .i64 x:=fun p hp=>by
  have hh:has (.map es) p.1=true:=by rw[has_eq];exact List.any_eq_true.2 ⟨p,hp,WideAt.sameKey_self (hk p hp)⟩
  obtain⟨k,v,h1,_⟩:=hM.has_ _ hh;exact⟨(k:Int),h1⟩
 have hp2:(l.map fun k:Nat=>(k:Int)).Perm (intKeys (.map es)):=perm_intKeys hpw hk2 (List.pairwise_map.2 (hs.imp fun h e=>by omega)) (fun x=>by
  constructor
  ·intro hx
   obtain⟨k,hk,rfl⟩:=zb.1 hx
   rw[show (Lit.int .i64 (k:Int))=dY k from rfl,hM.has_eq]
   exact(hm k).1 hk
  ·intro hx
   obtain⟨k,v,h1,h2⟩:=hM.has_ _ hx
   have e:x=(k:Int):=by simpa[dY] using h1
   exact zb.2 ⟨k,(hm k).2 (by rw[h2];rfl),e.symm⟩)
 rw[mergeSort_of_perm_i (hp.trans hp2.symm)];exact List.mergeSort_of_pairwise (List.pairwise_map.2 (hs.imp fun h=>by simp;omega))
theorem qM9 (m:Nat):AnyZI.SortsIn Tryz.prog Tryz.sortedI_ren Fence.wide m :=
 ⟨fun blk off cap ss W hH hblk hsz=>zI1.2 (AnyM.slices_Sort_int Tryz.sortI blk off cap ss W hH hblk hsz),
  fun p cap W=>zI1.2 (AnyM.slices_Sort_int_none Tryz.sortI p cap W)⟩
section
variable {w:World}{c:Nat→Col}{b:Nat}{T:Tab}
theorem qEh (h:TabAt w c b T)(hL:T.l.length≤1000000) :
  Calls Tryz.prog 189 #[.pointer (some ⟨b,0,none⟩)] w fun e w'=>∃ A cap,e=.returned (.slice A T.all.length cap)∧w'.ownsRow w.heap.size 3 1 (.slice A T.all.length cap) T.all.length (T.all.map dW)∧Below w.heap.size w w':=by
 obtain⟨bd,bs,bm,st,h⟩:=h;have c2:=ce2 h.own;obtain⟨D0,hown,hMI⟩:=h.map;have hsl:=hown.size_le;have hbl:=hown.lt;have hKS:=fun ss hp=>qCH hown hMI (l:=T.all) (List.Pairwise.filter _ List.pairwise_lt_range) (fun k=>by
  unfold Tab.all
  rw[zZ,List.mem_range]
  have e:(jT T st k).isSome=(T.at_ k).isSome:=by unfold jT;cases T.at_ k<;>rfl
  rw[e]
  exact⟨fun h=>h.2,fun h=>⟨by cases hx:T.at_ k with | none=>rw[hx] at h;cases h | some x=>exact nH hx,h⟩⟩) (ss:=ss) hp
 have HKS:=Hh hKS;clear h hKS;refine(zI1 (n:=6)).1 ?_;have hseq:SeqGives Fence.wide 2 Tryz.prog 292 #[.pointer (some ⟨w.heap.size,0,none⟩)] encZ (fun ss=>ss.Perm (intKeys D0)) (Maps.size D0) (w.alloc (.cells #[.map (some bm)] 83)) :=
  AnyZI.keys_gives (ρ:=Tryz.keysStat_ren) { Tryz.keysStat with } Fence.wide _ trivial rfl (by omega) w.heap.size bm T.l.length D0 _ (by simp) (by simp) (by
   obtain⟨es,clock,hb,Ft,hs,hD⟩:=hown
   exact⟨es,clock,(Below.heap_alloc _ _ bm hbl).trans hb,Ft,hs,hD⟩)
 have cK:∀ mb W,CallsIn Fence.wide 5 Tryz.prog 247 #[.map mb] W fun e w'=>e=.returned (.func (.func 292) #[] #[.pointer (some ⟨W.heap.size,0,none⟩)])∧w'=W.alloc (.cells #[.map mb] 83):=fun mb W=>AnyZI.keys_in Tryz.keysStat Fence.wide 5 trivial rfl mb W
 have cS:=AnyZI.sorted_in Tryz.sortedI Fence.wide 5 trivial trivial trivial trivial rfl (by omega) (qM9 _) (enters_of Tryz.func291 (by kernel_rfl) rfl) 292 #[.pointer (some ⟨w.heap.size,0,none⟩)] trivial (enters_of Tryz.func292 (by kernel_rfl) rfl) _ _ (by unfold maxLen;omega) (by omega) _ hseq;change CallsIn _ _ Tryz.prog 246 _ _ _ at cS;have hfK:Fence.wide.fn 247:=trivial;have hfS:Fence.wide.fn 246:=trivial;refine callsIn_of_wp Tryz.func189 rfl trivial ?_ rfl;simp only[Tryz.ntmps189,List.size_toArray,zQ,List.length_nil,Nat.reduceAdd,Nat.reduceSub,Array.replicate_succ,Array.replicate_zero,List.push_toArray,List.append_toArray,zh,zE]
 gi_wp2_with (first
  | (gi_at_call 247;refine(cK _ _).mono ?_;rintro e w' ⟨rfl,rfl⟩)
  | (gi_at_call 246;refine cS.mono ?_;rintro e w' ⟨v,ss,rfl,hS,hrow,hnil,hb⟩))
 go_ret;have hks:=HKS.o ss hS;have hlen:ss.length=T.all.length:=by
  have:=congrArg List.length hks;simpa using this
 have e1:(ss.mergeSort (fun x y=>decide (x≤y))).map encZ=T.all.map dW:=by
  rw[show ss.mergeSort (fun x y=>decide (x≤y))=_ from hks,zW];rfl
 rw[e1,hlen] at hrow;obtain⟨A,cap,rfl⟩:=Stl.owns_slice _ hrow;exact⟨A,cap,rfl,ownsRow_base_a hrow (by simp),((zB _ w).alloc (zo _) _).trans (hb.mono (by simp))⟩
end
end Go.Proofs.YtbmkaekimccdgaaGreatDoor
namespace Go.Proofs.YtbmkaekimccdgaaGreatDoor
open Go.RowKit Go.Sort Go.Shelf Stl
def oO (T:Tab)(n:Nat):Bool:=match T.read n with | .ok _=>false | .error _=>true
theorem qN3 (T:Tab):T.scan=T.all.filter (oO T):=rfl
theorem gQ {T:Tab}{n cd:Nat}(h:T.read n=.error cd):cd≠0:=by
 unfold Tab.read at h;split at h
 ·cases h;decide
 ·split at h
  ·cases h
  ·cases h;decide
section
variable {w:World}{c:Nat→Col}{b:Nat}{T:Tab}{p:Nat→Addr}
theorem qL1 (h:TabAt w c b T)(ht:yX T)(hD:T.disk.length≤1000000)(hL:T.l.length≤1000000)(hE:Errs w p) :
  Calls Tryz.prog 132 #[.pointer (some ⟨b,0,none⟩)] w fun e w'=>∃ A cap,e=.returned (.slice A T.scan.length cap)∧w'.ownsRow w.heap.size 3 1 (.slice A T.scan.length cap) T.scan.length (T.scan.map dW)∧Below w.heap.size w w':=by
 have HALL:=Hh (qEh h hL);have HS:=Hh (qN3 T);have hal:∀ n∈T.all,n≤1000000:=fun n hn=>by
  unfold Tab.all at hn;have:=List.mem_range.1 (zZ.1 hn).1;omega
 have hll:T.all.length≤1000000:=by
  unfold Tab.all;have:=zS (fun n=>(T.at_ n).isSome) (List.range T.l.length);simp at this ⊢;omega
 generalize T.scan=res at HS ⊢;generalize T.all=all at HALL HS hal hll;have HT:=Hh h;have HOK:=Hh ht;have HDD:=Hh hD;have HE:=Hh hE;have HAL:=Hh hal;clear h ht hD hL hE hal;go_enter Tryz.func132,Tryz.ntmps132;go_upto_region 5 with (go_at_call 189;refine HALL.o.mono ?_;rintro ev wx ⟨A,cap,rfl,hr,hb⟩;have HRW:=Hh hr;have HBX:=Hh hb;clear hr hb)
 go_loopw [3,13] (fun v a wr=>∃ (i:Nat) (acc:List Nat),a=.int .i64 i∧i≤all.length∧acc.length≤i∧Hg (Below wx.heap.size wx wr)∧Hg (wr.ownsRow wx.heap.size 3 1 v acc.length (acc.map dW))∧Hg (acc=(all.take i).filter (oO T))) (fun _ a _=>all.length-(intOf a).toNat)
 case atStart=>exact⟨0,[],rfl,zw _,zo _,Hh (zB _ _),Hh (zF1 _ _ _ _),Hh rfl⟩
 case round =>
  obtain⟨i,acc,rfl,hi,hacc,HB,HO,HA⟩:=hrel;by_cases hil:i<all.length
  ·have i1:(i:Int)<(all.length:Int):=by omega
   have i2:(0:Int)≤(i:Int):=by omega
   have hbr:Below w.heap.size w wr:=HBX.o.trans (HB.o.mono HBX.o.size);have HRD:=Hh (xM (HT.o.below hbr) HOK.o HDD.o all[i] (HAL.o _ (zO hil)) (HE.o.later hbr));have hap:∃ g,A=some ⟨g,0,none⟩∧g<wx.heap.size:=by
    rcases HRW.o.2 with ⟨_,h0⟩ | ⟨g,cp,cur,e,_,h6,_⟩
    ·omega
    ·simp only[zC1] at e;exact⟨g,e.1,qA h6⟩
   obtain⟨g,rfl,hgl⟩:=hap;have q0:wr.cell? ⟨g,i,none⟩=some (.int .i64 (all[i]:Nat)):=by
    rw[HB.o.cell (p:=⟨g,i,none⟩) hgl,HRW.o.cellAt i (by omega),zN,zL hil];rfl
   have HAN:=Hh (show (all.take (i+1)).filter (oO T)=acc++(if oO T all[i] then [all[i]] else []) by
    rw[zn hil,List.filter_append,← HA.o]
    simp only[zI,List.filter_nil])
   generalize all[i]=n at HRD q0 HAN
   cases hrd:T.read n with
   | ok s =>
    rw[hrd,show mL p (.ok s)=#[.string ⟨s.toArray⟩,.nilIface] from rfl] at HRD;have HAN2:=Hh (show acc=(all.take (i+1)).filter (oO T) by
     rw[HAN.o]
     simp[oO,hrd])
    clear hrd hbr;go_wp2_with (go_at_call 186;refine HRD.o.mono ?_;rintro ev w3 ⟨rfl,hb3⟩;have HB3:=Hh (HB.o.trans (hb3.mono HB.o.size));have HO3:=Hh (HO.o.kept (Below.toGrown hb3 none) (by cases Value.ownBlock u3<;>simp));clear hb3);clear q0;go_roundw
    case rel=>exact⟨i+1,acc,by go_num,hil,by omega,HB3,HO3,HAN2⟩
    case measure=>simp[intOf];omega
   | error cd =>
    rw[hrd,show mL p (.error cd)=#[.string ⟨#[]⟩,jK p cd] from rfl,qD p (gQ hrd)] at HRD;have HAN2:=Hh (show acc++[n]=(all.take (i+1)).filter (oO T) by
     rw[HAN.o]
     simp[oO,hrd])
    obtain⟨i0,hii,hz0,hz1,hz2⟩:=qGD.info;have HII:=Hh hii;have HZ0:=Hh hz0;have HZ1:=Hh hz1;have HZ2:=Hh hz2;clear hrd hbr hii hz0 hz1 hz2;go_upto_region 9 with (go_at_call 186;refine HRD.o.mono ?_;rintro ev w3 ⟨rfl,hb3⟩;have HB3:=Hh (HB.o.trans (hb3.mono HB.o.size));have HO3:=Hh (HO.o.kept (Below.toGrown hb3 none) (by cases Value.ownBlock u3<;>simp));clear hb3);have hb4:Below w3.heap.size w3 (w3.alloc (.cells #[.int .i64 n] 3)):=(zB _ w3).alloc (zo _) _;have HB4:=Hh (HB3.o.trans (hb4.mono HB3.o.size));have HO4:=Hh (HO3.o.kept (Below.toGrown hb4 none) (by cases Value.ownBlock u3<;>simp));clear hb4 q0;go_wp2_with (at_builtin;refine Stl.wpList_app _ rfl _ _ 220 rfl wx.heap.size 3 i0 (.int .i64 0) 1 8 Tryz.underlying220 HII.o HZ0.o HZ1.o HZ2.o rfl (by decide) u3 acc.length (acc.map dW) rfl HO4.o (some ⟨w3.heap.size,0,none⟩) 1 1 [.int .i64 n] rfl rfl (fun h=>by cases h) (jD _ _ _) (by simp[Value.oneCell']) (by unfold maxLen;omega) (by omega) (zq HB3.o.size (by simp)) ?_;intro A5 c5 w5 hown5 hgr5 hat;have HO5:=Hh hown5;have HB5:=Hh (HB4.o.grown hgr5 HB4.o.size (fun k hk=>(HO4.o.lt k hk).1));clear hown5 hgr5 hat);go_roundw
    case rel=>exact⟨i+1,acc++[n],by go_num,hil,by simp;omega,HB5,by simpa using HO5,HAN2⟩
    case measure=>simp[intOf];omega
  ·have i1:¬ (i:Int)<(all.length:Int):=by omega
   have HR:=Hh (show res=acc by
    have:=HA.o
    rw[zm (by omega)] at this
    rw[HS.o,this])
   obtain⟨A3,c3,e3⟩:=Stl.owns_slice _ HO.o;subst e3;go_wp2;go_ret;rw[HR.o];exact⟨A3,c3,rfl,ownsRow_base_a HO.o HBX.o.size,HBX.o.trans (HB.o.mono HBX.o.size)⟩
end
def kN (T:Tab)(l:List Nat)(x:oM):Option Value:=(kR T l x.1).map fun n:Nat=>Value.int .i64 (n:Int)
abbrev qKQ (w:World)(b n:Nat)(f:oM→Option Value):Prop:=Stl.zzMapAt Tryz.prog 358 oZ w b n f
def qOA (w:World)(T:Tab)(l:List Nat)(e:Ending)(w':World):Prop:=∃ bm n,e=.returned (.map (some bm))∧qKQ w' bm n (kN T l)∧Below w.heap.size w w'
structure FsSt (w wr:World)(T:Tab)(A:Option Addr)(cap:Nat)(all:List Nat)(j:Nat):Prop where
 below:Below w.heap.size w wr
 row:wr.ownsRow (w.heap.size+1) 3 1 (.slice A all.length cap) all.length (all.map dW)
 map:qKQ wr w.heap.size j (kN T (all.take j))
theorem FsSt.later {w wr w2:World}{T:Tab}{A:Option Addr}{cap:Nat}{all:List Nat}{j:Nat}(h:FsSt w wr T A cap all j)(hb:Below wr.heap.size wr w2):FsSt w w2 T A cap all j :=
 ⟨h.below.trans (hb.mono h.below.size),h.row.kept (Below.toGrown hb none) (by cases Value.ownBlock (Value.slice A all.length cap)<;>simp),h.map.of_block (hb.block _ h.map.lt)⟩
section
variable {w:World}{c:Nat→Col}{b:Nat}{T:Tab}{p:Nat→Addr}
theorem qIb (h:TabAt w c b T)(ht:yX T)(hD:T.disk.length≤1000000)(hL:T.l.length≤1000000)(hE:Errs w p) :
  Calls Tryz.prog 227 #[.pointer (some ⟨b,0,none⟩)] w (qOA w T T.all):=by
 have hmm:=@run_makeMap Tryz.prog;have hb1:Below w.heap.size w (w.alloc (.map #[] 0)):=(zB _ w).alloc (zo _) _;have hz1:(w.alloc (.map #[] 0)).heap.size=w.heap.size+1:=by simp
 have HALL:=Hh (qEh (h.below hb1) hL);have HM1:=Hh (zzMapAt.made w Tryz.prog 358 oZ);have hal:∀ n∈T.all,n≤1000000∧∃ x,T.at_ n=some x:=fun n hn=>by
  have h1:=pP.1 hn;obtain⟨x,hx⟩:=zy.1 h1;have:=nH hx;exact⟨by omega,x,hx⟩
 have hll:T.all.length≤1000000:=by
  unfold Tab.all;have:=zS (fun n=>(T.at_ n).isSome) (List.range T.l.length);simp at this ⊢;omega
 generalize T.all=all at HALL hal hll ⊢;have HT:=Hh h;have HOK:=Hh ht;have HDD:=Hh hD;have HE:=Hh hE;have HAL:=Hh hal;have HB1:=Hh hb1;clear h ht hD hL hE hal hb1;go_enter Tryz.func227,Tryz.ntmps227;go_upto_region 2 with fail;generalize w.alloc (.map #[] 0)=w1 at *;go_upto_region 3 with (go_at_call 189;refine HALL.o.mono ?_;rintro ev wx ⟨A,cap,rfl,hr,hb⟩;have HRW:=Hh hr;have HBX:=Hh hb;clear hr hb);have H0:=Hh (show FsSt w wx T A cap all 0 from ⟨HB1.o.trans (HBX.o.mono HB1.o.size),by have:=HRW.o;rwa [hz1] at this,(HM1.o.of_block (HBX.o.block _ HM1.o.lt)).congr fun x=>rfl⟩);clear hz1
 go_loopw [16] (fun a wr=>∃ j:Nat,a=.int .i64 j∧j≤all.length∧Hg (FsSt w wr T A cap all j)) (fun a _=>all.length-(intOf a).toNat)
 case atStart=>exact⟨0,rfl,zw _,H0⟩
 case round =>
  obtain⟨j,rfl,hj,HS⟩:=hrel;by_cases hjl:j<all.length
  ·have i1:(j:Int)<(all.length:Int):=by omega
   have i2:(0:Int)≤(j:Int):=by omega
   obtain⟨hnb,x,hx⟩:=HAL.o _ (zO hjl);have HRD:=Hh (xM (HT.o.below HS.o.below) HOK.o HDD.o all[j] hnb (HE.o.later HS.o.below));have hap:∃ g,A=some ⟨g,0,none⟩∧g<wr.heap.size:=by
    rcases HS.o.row.2 with ⟨_,h0⟩ | ⟨g,cp,cur,e,_,h6,_⟩
    ·omega
    ·simp only[zC1] at e;exact⟨g,e.1,qA h6⟩
   obtain⟨g,rfl,hgl⟩:=hap;have q0:wr.cell? ⟨g,j,none⟩=some (.int .i64 (all[j]:Nat)):=by
    rw[HS.o.row.cellAt j (by omega),zN,zL hjl];rfl
   have HTK:=Hh (show all.take (j+1)=all.take j++[all[j]] from zn hjl);generalize all[j]=n at HRD q0 HTK hx hnb;have HX:=Hh hx
   cases hrd:T.read n with
   | error cd =>
    rw[hrd,show mL p (.error cd)=#[.string ⟨#[]⟩,jK p cd] from rfl,qD p (gQ hrd)] at HRD;have HFN:=Hh (show ∀ y:oM,kN T (all.take (j+1)) y=kN T (all.take j) y from fun y=>by
     unfold kN
     rw[HTK.o,qAz]
     cases kR T (all.take j) y.1 with
     | some m=>rfl
     | none=>rw[zL1 (by rw[qLD hrd];simp)])
    clear hrd hx;go_upto_region 6 with (go_at_call 186;refine HRD.o.mono ?_;rintro ev w3 ⟨rfl,hb3⟩;have HS3:=Hh (HS.o.later hb3);clear hb3);clear q0;have HST:=Hh (wE (HT.o.below HS3.o.below) HOK.o n hnb HX.o);simp only[uI,jN] at HST;go_upto_region 7 with (go_at_call 184;refine HST.o.mono ?_;rintro ev w4 ⟨A4,cap4,rfl,hr4,hb4⟩;have HS4:=Hh (HS3.o.later hb4);clear hb4 hr4);have HS5:=Hh (HS4.o.later (w2:=w4.alloc (.cells #[.int .i64 x.bytes,.int .i64 x.links,.bool x.exec,.slice A4 x.blocks.length cap4,.int .u32 x.sum.toNat] 254)) ((zB _ w4).alloc (zo _) _));generalize w4.alloc (.cells #[.int .i64 x.bytes,.int .i64 x.links,.bool x.exec,.slice A4 x.blocks.length cap4,.int .u32 x.sum.toNat] 254)=w5 at *;go_wp2_with fail;go_roundw
    case rel=>exact⟨j+1,by go_num,hjl,Hh ⟨HS5.o.below,HS5.o.row,(HS5.o.map.mono (by omega)).congr HFN.o⟩⟩
    case measure=>simp[intOf];omega
   | ok s =>
    rw[hrd,show mL p (.ok s)=#[.string ⟨s.toArray⟩,.nilIface] from rfl] at HRD;have hsl:s.length≤maxLen:=by
     have h1:s.length≤x.bytes:=by
      unfold Tab.read at hrd;rw[HX.o] at hrd;simp only at hrd;split at hrd
      ·cases hrd
       unfold Tab.raw;exact List.length_take_le _ _
      ·cases hrd
     have h2:=HOK.o.bytes n x HX.o;unfold maxLen;omega
    have hky:=qG2 hrd HX.o;have HKY:=Hh hky;clear hrd hx hky;go_upto_region 6 with (go_at_call 186;refine HRD.o.mono ?_;rintro ev w3 ⟨rfl,hb3⟩;have HS3:=Hh (HS.o.later hb3);clear hb3);clear q0;have HST:=Hh (wE (HT.o.below HS3.o.below) HOK.o n hnb HX.o);simp only[uI,jN] at HST;go_upto_region 7 with (go_at_call 184;refine HST.o.mono ?_;rintro ev w4 ⟨A4,cap4,rfl,hr4,hb4⟩;have HS4:=Hh (HS3.o.later hb4);clear hb4 hr4);have HS5:=Hh (HS4.o.later (w2:=w4.alloc (.cells #[.int .i64 x.bytes,.int .i64 x.links,.bool x.exec,.slice A4 x.blocks.length cap4,.int .u32 x.sum.toNat] 254)) ((zB _ w4).alloc (zo _) _));have HX5:=Hh (zK1 w4 (.cells #[.int .i64 x.bytes,.int .i64 x.links,.bool x.exec,.slice A4 x.blocks.length cap4,.int .u32 x.sum.toNat] 254));generalize w4.alloc (.cells #[.int .i64 x.bytes,.int .i64 x.links,.bool x.exec,.slice A4 x.blocks.length cap4,.int .u32 x.sum.toNat] 254)=w5 at *;have x2:=ce2 HX5.o;obtain⟨ky,hkye⟩:∃ ky:oM,ky=⟨(s,x.exec),hsl⟩:=⟨_,rfl⟩;have hlk:=HS5.o.map.getOk (t:=324) okK Tryz.underlying324 (dD w5) (i:=ky) trivial;have HKE:=Hh hkye
    cases hfi:kR T (all.take j) (s,x.exec) with
    | some m =>
     have hff:kN T (all.take j) ky=some (.int .i64 (m:Int)):=by unfold kN;rw[hkye];simp only[hfi];rfl
     rw[hff,hkye] at hlk;simp only[zx,Option.isSome_some,mkT,mkK] at hlk;have HFN:=Hh (show ∀ y:oM,kN T (all.take (j+1)) y=kN T (all.take j) y from fun y=>by
      unfold kN
      rw[HTK.o,qAz]
      cases hy:kR T (all.take j) y.1 with
      | some m=>rfl
      | none =>
       rw[zL1 (fun e=>by
        rw[HKY.o] at e
        injection e with e
        rw[← e,hfi] at hy
        cases hy)])
     clear hfi hff hkye;go_wp2_with fail;go_roundw
     case rel=>exact⟨j+1,by go_num,hjl,Hh ⟨HS5.o.below,HS5.o.row,(HS5.o.map.mono (by omega)).congr HFN.o⟩⟩
     case measure=>simp[intOf];omega
    | none =>
     have hff:kN T (all.take j) ky=none:=by unfold kN;rw[hkye];simp only[hfi];rfl
     rw[hff,hkye] at hlk;simp only[Option.getD_none,Option.isSome_none,mkT,mkK] at hlk;have HFN:=Hh (show ∀ y:oM,kN T (all.take (j+1)) y=if y=ky then some (.int .i64 (n:Int)) else kN T (all.take j) y from fun y=>by
      unfold kN
      rw[HTK.o,qAz]
      by_cases hy:y=ky
      ·rw[zM1 hy,hy,HKE.o]
       simp only[hfi,HKY.o,if_true]
       rfl
      ·rw[zL1 hy]
       cases kR T (all.take j) y.1 with
       | some m=>rfl
       | none =>
        rw[zL1 (fun e=>by
         rw[HKY.o] at e
         injection e with e
         apply hy
         rw[HKE.o]
         exact Subtype.ext e.symm)])
     clear hfi hff hkye;go_wp2_with (at_mapUpdate;refine yR rfl _ _ _ 324 3 rfl okK Tryz.underlying324 rfl HS5.o.map (by unfold maxLen;omega) ky trivial (by rw[HKE.o];rfl) (.int .i64 n) rfl ?_;intro W6 hmap6 hturn6;have HMP6:=Hh hmap6;have HTN6:=Hh hturn6;clear hmap6 hturn6);go_roundw
     case rel =>
      refine⟨j+1,by go_num,hjl,Hh ⟨HS5.o.below.grown HTN6.o.grown HS5.o.below.size (fun k hk=>by injection hk with hk;omega),HS5.o.row.kept HTN6.o.grown ?_,HMP6.o.congr HFN.o⟩⟩;refine .inr fun e=>?_
      have:=(HS5.o.row.lt _ e).1;omega
     case measure=>simp[intOf];omega
  ·have i1:¬ (j:Int)<(all.length:Int):=by omega
   obtain rfl:j=all.length:=by omega
   have hm:=HS.o.map;rw[zk] at hm;have HM:=Hh hm;clear hm;go_wp2;go_ret;exact⟨_,_,rfl,HM.o,HS.o.below⟩
end
end Go.Proofs.YtbmkaekimccdgaaGreatDoor
namespace Go.Proofs.YtbmkaekimccdgaaGreatDoor
open Go.RowKit Go.Maps Go.Sort Go.Shelf Stl
theorem qIZ {l:List Ent}{e:Ent}(h:∀ x∈l,x.k≠e.k)(j:Nat):qN (l++[e]) j=if j=e.k then some e else qN l j:=by
 unfold qN;rw[List.find?_append];by_cases hj:j=e.k
 ·subst hj;rw[zM1 rfl,List.find?_eq_none.2 (fun x hx=>by simpa using h x hx)];simp
 ·rw[zL1 hj]
  cases hf:l.find? fun x=>x.k==j with
  | some x=>rfl
  | none=>simp[Ne.symm hj]
theorem qBK (l:List Ent)(k:Nat)(s:List UInt8)(n j:Nat):qN (jZ l k s n) j=(qN l j).map fun e=>if e.k=k then { e with f:=qZ e.f s n } else e:=by
 unfold qN jZ
 induction l with
 | nil=>rfl
 | cons x r ih =>
  have hk:(if x.k=k then { x with f:=qZ x.f s n } else x).k=x.k:=by split<;>rfl
  rw[zV,List.find?_cons,List.find?_cons,hk]
  cases hx:x.k==j
  ·exact ih
  ·rfl
structure DirsBut (w:World)(c:Nat→Col)(b:Nat)(d:Stl.Dirs)(bt bm:Nat)(nd:Nat→List Value)(fm:Nat→Nat):Prop where
 own:w.heap[b]?=some (.cells #[.pointer (some ⟨bt,0,none⟩),.map (some bm),.int .i64 d.next] 88 (0,0))
 col:c b=.dirs
 mcol:c bm=.dirsMap
 map:gS w bm d.l.length (yC d.l nd fm)
 node:∀ k e,qN d.l k=some e→RoNode w c e.n (nd k)
 fcol:∀ k e,qN d.l k=some e→c (fm k)=.files k
 files:∀ k e,qN d.l k=some e→vM w (fm k) e.f.length (fileAt e.f)
section
variable {w w2 w3:World}{c c2:Nat→Col}{S:Col→Bool}{b:Nat}{d:Stl.Dirs}{bt bm:Nat}{nd:Nat→List Value}{fm:Nat→Nat}
theorem DirsIn.but (h:DirsIn w c b d bt bm nd fm):DirsBut w c b d bt bm nd fm:=⟨h.own,h.col,h.mcol,h.map,h.node,h.fcol,h.files⟩
theorem DirsBut.full (h:DirsBut w c b d bt bm nd fm){T:Tab}(ht:TabAt w c bt T):DirsIn w c b { d with t:=T } bt bm nd fm:=⟨h.own,h.col,ht,h.mcol,h.map,h.node,h.fcol,h.files⟩
theorem DirsBut.ext (h:DirsBut w c b d bt bm nd fm)(e:Ext w w2 c c2 S)(h0:S .ro=false)(h1:S .dirs=false)(h2:S .dirsMap=false)(h3:∀ j,S (.files j)=false):DirsBut w2 c2 b d bt bm nd fm :=
 ⟨(e.kept h.own h.col h1).1,(e.kept h.own h.col h1).2,e.col h.map.lt h.mcol h2,h.map.ext e h.mcol h2,
  fun j x hx=>(h.node j x hx).ext e h0,fun j x hx=>e.col (h.files j x hx).lt (h.fcol j x hx) (h3 j),fun j x hx=>(h.files j x hx).ext e (h.fcol j x hx) (h3 j)⟩
theorem DirsBut.put (h:DirsBut w c b d bt bm nd fm)(hn:∀ x∈d.l,x.k<d.next){n:Nd}{vs:List Value}{f:List (List UInt8×Nat)}{bf:Nat}(hr:RoNode w c n vs)(hfc:c bf=.files d.next)(hf:vM w bf f.length (fileAt f))
  (hm:gS w2 bm (d.l.length+1) (fun j=>if j=d.next then some (.agg (vs++[Value.map (some bf)]).toArray) else yC d.l nd fm j)) (e:Ext w w2 c c (S1 .dirsMap)) :
  DirsBut (w2.setCell ⟨b,2,none⟩ (.int .i64 ((d.next+1:Nat):Int))) c b { d with l:=d.l++[⟨d.next,n,f⟩],next:=d.next+1 } bt bm (fun j=>if j=d.next then vs else nd j) (fun j=>if j=d.next then bf else fm j) ∧
   Ext w2 (w2.setCell ⟨b,2,none⟩ (.int .i64 ((d.next+1:Nat):Int))) c c (S1 .dirs):=by
 have hb2:=e.kept h.own h.col rfl;obtain⟨s1,s2⟩:=Ext.cell hb2.1 hb2.2 2 (.int .i64 ((d.next+1:Nat):Int));have hne:∀ x∈d.l,x.k≠(⟨d.next,n,f⟩:Ent).k:=fun x hx=>Nat.ne_of_lt (hn x hx)
 have hs:=qIZ hne;have hE:∀ j x,qN (d.l++[⟨d.next,n,f⟩]) j=some x→(j=d.next∧x=⟨d.next,n,f⟩)∨(j≠d.next∧qN d.l j=some x):=by
  intro j x hx;rw[hs] at hx;by_cases hj:j=d.next
  ·rw[zM1 hj] at hx;exact .inl ⟨hj,(Option.some.inj hx).symm⟩
  ·rw[zL1 hj] at hx;exact .inr ⟨hj,hx⟩
 have e3:Ext w (w2.setCell ⟨b,2,none⟩ (.int .i64 ((d.next+1:Nat):Int))) c c (fun y=>decide (y=.dirs)||decide (y=.dirsMap)):=(e.mono (S':=fun y=>decide (y=.dirs)||decide (y=.dirsMap)) (jP rfl)).then s2 (jP rfl);refine⟨⟨by simpa using s1,h.col,h.mcol,?_,fun j x hx=>?_,fun j x hx=>?_,fun j x hx=>?_⟩,s2⟩
 ·have:=(hm.ext s2 h.mcol rfl).congr (g:=yC (d.l++[⟨d.next,n,f⟩]) (fun j=>if j=d.next then vs else nd j) (fun j=>if j=d.next then bf else fm j)) (fun j=>by
   unfold yC
   rw[hs]
   by_cases hj:j=d.next<;>simp[hj])
  simpa using this
 ·rcases hE j x hx with ⟨rfl,rfl⟩ | ⟨hj,hx⟩
  ·simp only[if_true];exact hr.ext e3 rfl
  ·simp only[zL1 hj];exact(h.node j x hx).ext e3 rfl
 ·rcases hE j x hx with ⟨rfl,rfl⟩ | ⟨hj,hx⟩
  ·simp only[if_true];exact hfc
  ·simp only[zL1 hj];exact h.fcol j x hx
 ·rcases hE j x hx with ⟨rfl,rfl⟩ | ⟨hj,hx⟩
  ·simp only[if_true];exact hf.ext e3 hfc (by simp)
  ·simp only[zL1 hj];exact(h.files j x hx).ext e3 (h.fcol j x hx) (by simp)
theorem DirsBut.share (h:DirsBut w c b d bt bm nd fm){k:Nat}{en:Ent}(he:qN d.l k=some en){s:List UInt8}(n:Nat)(hs:(jV en.f s).isSome=true)
  (hm:vM w2 (fm k) (en.f.length+1) (fun x=>if x=s then some (.int .i64 (n:Int)) else fileAt en.f x)) (e:Ext w w2 c c (S1 (.files k))) :
  DirsBut w2 c b { d with l:=jZ d.l k s n } bt bm nd fm:=by
 have hek:en.k=k:=(vX he).2;have hE:∀ j x,qN (jZ d.l k s n) j=some x→∃ y,qN d.l j=some y∧x.n=y.n∧((j=k∧y=en∧x.f=qZ en.f s n)∨(j≠k∧x=y)):=by
  intro j x hx;rw[qBK] at hx
  cases hy:qN d.l j with
  | none=>rw[hy] at hx;cases hx
  | some y =>
   rw[hy] at hx;simp only[zA1,zB1] at hx;have hyk:=(vX hy).2;by_cases hj:j=k
   ·subst hj;rw[he] at hy
    cases hy
    rw[zM1 hek] at hx;subst hx;exact⟨en,rfl,rfl,.inl ⟨rfl,rfl,rfl⟩⟩
   ·rw[zL1 (by rw[hyk];exact hj)] at hx;exact⟨y,rfl,by rw[hx],.inr ⟨hj,hx.symm⟩⟩
 have hlen:(jZ d.l k s n).length=d.l.length:=by simp[jZ]
 refine⟨(e.kept h.own h.col (yU (by intro e;cases e))).1,h.col,h.mcol,?_,fun j x hx=>?_,fun j x hx=>?_,fun j x hx=>?_⟩
 ·rw[show ({ d with l:=jZ d.l k s n }:Stl.Dirs).l.length=d.l.length from hlen];refine(h.map.ext e h.mcol (yU (by intro e;cases e))).congr fun j=>?_
  unfold yC;show ((qN (jZ d.l k s n) j).map _)=_;rw[qBK]
  cases qN d.l j<;>rfl
 ·obtain⟨y,hy,hn,_⟩:=hE j x hx;rw[hn];exact(h.node j y hy).ext e (yU (by intro e;cases e))
 ·obtain⟨y,hy,_,_⟩:=hE j x hx;exact h.fcol j y hy
 ·obtain⟨y,hy,_,h3⟩:=hE j x hx
  rcases h3 with ⟨rfl,rfl,h4⟩ | ⟨hj,rfl⟩
  ·rw[h4];have hl2:(qZ y.f s n).length=y.f.length:=by simp[qZ]
   rw[hl2];have:=(hm.congr (g:=fileAt (qZ y.f s n)) (fun x=>by
    unfold fileAt
    rw[kJ]
    by_cases hx:x=s
    ·subst hx
     rw[zM1 rfl,zM1 rfl]
     cases hq:jV y.f x with
     | none=>rw[hq] at hs;cases hs
     | some m=>rfl
    ·rw[zL1 hx,zL1 hx])).tight okS.keyed (y.f.map (·.1)) (fun x hx=>by
     unfold fileAt at hx
     rw[kJ] at hx
     have h5:(jV y.f x).isSome=true:=by
      by_cases h6:x=s
      ·rw[h6];exact hs
      ·rw[zL1 h6] at hx;simpa using hx
     unfold jV at h5
     cases hf:y.f.find? fun p=>p.1==x with
     | none=>rw[hf] at h5;cases h5
     | some q =>
      have h7:=zf hf
      have h8:=List.find?_some hf
      exact zb.2 ⟨q,h7,by simpa using h8⟩)
   simpa using this
  ·exact(h.files j x hy).ext e (h.fcol j x hy) (yU (by intro e;injection e with e;exact hj e))
end
def yJ (l:List It):List (List UInt8):=(l.filter fun x=>x.n.kind==kFile).map fun x=>told x.path
theorem qBq (a b:List It):yJ (a++b)=yJ a++yJ b:=by simp[yJ]
theorem qGF (x:It)(h:x.n.kind=kFile):yJ [x]=[told x.path]:=by simp[yJ,h]
theorem qEG (x:It)(h:x.n.kind≠kFile):yJ [x]=[]:=by simp[yJ,h]
theorem qEo (l:List It):(yJ l).length≤l.length:=by simp[yJ,zS]
structure PSt (w0 W:World)(b5:Nat)(pre:List It):Prop where
 o:∃ A c,W.heap[b5]?=some (.cells #[.slice A (yJ pre).length c] 22 (0,0))∧W.ownsRow w0.heap.size 9 1 (.slice A (yJ pre).length c) (yJ pre).length ((yJ pre).map encStr)
 old:w0.heap.size≤b5
 below:Below w0.heap.size w0 W
theorem PSt.later {w0 W W':World}{b5:Nat}{pre:List It}(h:PSt w0 W b5 pre)(hb:Below W.heap.size W W'):PSt w0 W' b5 pre:=by
 obtain⟨A,c,h1,h2⟩:=h.o;exact⟨⟨A,c,(hb.block _ (zN1 h1)).trans h1,h2.kept (Below.toGrown hb none) (by cases Value.ownBlock (Value.slice A (yJ pre).length c)<;>simp)⟩,h.old,h.below.trans (hb.mono h.below.size)⟩
theorem qIT {w0 W w2 w3:World}{b5:Nat}{pre:List It}{x:It}{Ao A3:Option Addr}{co c3:Nat}{acc:List (List UInt8)}
  (HS:PSt w0 W b5 pre) (HB2:Below W.heap.size W w2) (HO1:w2.heap[b5]?=some (.cells #[.slice Ao acc.length co] 22 (0,0)))
  (HO3:w2.ownsRow w0.heap.size 9 1 (.slice Ao acc.length co) acc.length (acc.map encStr)) (HO4:w3.ownsRow w0.heap.size 9 1 (.slice A3 (acc.length+1) c3) (acc.length+1) (acc.map encStr++[encStr (told x.path)]))
  (HG3:w2.grownBy w3 (Value.slice Ao acc.length co).ownBlock) (HR:yJ (pre++[x])=acc++[told x.path]) :
  PSt w0 (w3.setCell ⟨b5,0,none⟩ (.slice A3 (acc.length+1) c3)) b5 (pre++[x])∧NKeep W (w3.setCell ⟨b5,0,none⟩ (.slice A3 (acc.length+1) c3)):=by
 have s3:=(HG3.block _ (zN1 HO1) (vI HO3 HO1 (by decide))).trans HO1;have hz:=HS.below.size;have hb2:Below w0.heap.size w0 w2:=HS.below.trans (HB2.mono hz);have hb3:Below w0.heap.size w0 w3:=hb2.grown HG3 hb2.size (fun k hk=>(HO3.lt k hk).1);refine⟨⟨⟨A3,c3,?_,?_⟩,HS.old,hb3.setCell HS.old _⟩,?_⟩
 ·rw[one_setCell s3,HR];simp
 ·rw[HR,zP,zU];exact zO1 HO4 (vI HO4 s3 (by decide)).symm _
 ·intro k cs T fr hk h1 h2;have k2:=(HB2.block _ (zN1 hk)).trans hk;have k3:=(HG3.block _ (zN1 k2) (vI HO3 k2 h1)).trans k2;rw[zA _ _ _ _ (by
   rintro rfl
   rw[s3] at k3
   injection k3 with k3
   injection k3 with _ k3
   exact h2.1 k3.symm)]
  exact k3
theorem qIt {w0 W:World}{b5:Nat}{pre:List It}(x:It)(vs:List Value)(h:PSt w0 W b5 pre)(W0:World)(hn:NodeAt W0 x.n vs)(hp:(yJ pre).length≤1000000) :
  Calls Tryz.prog 107 (#[.agg vs.toArray,.string ⟨(told x.path).toArray⟩]++#[.pointer (some ⟨b5,0,none⟩)]) W (dA (fun l W'=>PSt w0 W' b5 l) (pre++[x]) W):=by
 obtain⟨p',deep,n⟩:=x;obtain⟨k,d,e,ks⟩:=n;obtain⟨A,c,rfl,_,_⟩:=hn.open;have HS:=Hh h;have hb1:Below W.heap.size W (W.alloc (.cells #[.string ⟨k.toArray⟩,.string ⟨d.toArray⟩,.bool e,.slice A ks.length c] 134)):=(zB _ W).alloc (zo _) _;have HS1:=Hh (h.later hb1);have HB:=Hh hb1;clear h hn hb1;simp only;generalize hpt:told p'=pt
 rcases (show (k=kFile∧(k==[102,105,108,101])=true)∨(k≠kFile∧(k==[102,105,108,101])=false) from by
   by_cases h:k=kFile
   ·exact .inl ⟨h,by subst h;decide⟩
   ·exact .inr ⟨h,by simpa[kFile] using h⟩) with ⟨hk,hk'⟩ | ⟨hk,hk'⟩
 ·have HR:=Hh (show yJ (pre++[⟨p',deep,.mk k d e ks⟩])=yJ pre++[told (⟨p',deep,.mk k d e ks⟩:It).path] by rw[qBq,qGF ⟨p',deep,.mk k d e ks⟩ hk]);obtain⟨Ao,co,ho1,ho2⟩:=HS1.o.o;generalize yJ pre=acc at HR ho1 ho2 hp;have HO1:=Hh ho1;have HO2:=Hh ho2;have HP:=Hh hpt;have c5:=cell_of_one ho1;have f5:=free_of_one ho1;obtain⟨i0,hi,hz0,hz1,hz2⟩:=pO;have Hi:=Hh hi;have Hz0:=Hh hz0;have Hz1:=Hh hz1;have Hz2:=Hh hz2;clear hk ho1 ho2 hi hz0 hz1 hz2 hpt;go_enter Tryz.func107,Tryz.ntmps107;go_upto_region 2 with fail;generalize W.alloc (.cells #[.string ⟨k.toArray⟩,.string ⟨d.toArray⟩,.bool e,.slice A ks.length c] 134)=W1 at *;have hb2:Below W1.heap.size W1 (W1.alloc (.cells #[.string ⟨pt.toArray⟩] 9)):=(zB _ W1).alloc (zo _) _;have HB2:=Hh hb2;have HO3:=Hh (HO2.o.kept (Below.toGrown hb2 none) (by cases Value.ownBlock (Value.slice Ao acc.length co)<;>simp));have HOX:=Hh ((hb2.block _ (zN1 HO1.o)).trans HO1.o);clear hb2;go_wp2_with (at_builtin;refine Stl.wpList_app _ rfl _ _ 22 rfl w0.heap.size 9 i0 (.string ByteArray.empty) 1 16 Tryz.underlying22 Hi.o Hz0.o Hz1.o Hz2.o rfl (by decide) (.slice Ao acc.length co) acc.length (acc.map encStr) rfl HO3.o (some ⟨W1.heap.size,0,none⟩) 1 1 [.string ⟨pt.toArray⟩] rfl rfl (fun h=>by cases h) (jD _ _ _) (by simp[Value.oneCell']) (by unfold maxLen;omega) (by omega) (zq HS1.o.below.size HB2.o.size) ?_;intro A3 c3 w3 hown3 hgr3 hat;have HO4:=Hh hown3;have HG3:=Hh hgr3;have HS3:=Hh ((hgr3.block _ (zN1 HOX.o) (vI HO3.o HOX.o (by decide))).trans HOX.o);have c5':=cell_of_one HS3.o;have f5':=free_of_one HS3.o;clear hown3 hgr3 hat);go_end0;refine⟨rfl,?_⟩;have HR2:=HR.o;have:=qIT (x:=⟨p',deep,.mk k d e ks⟩) HS1.o HB2.o HOX.o HO3.o (by simp only[HP.o];exact HO4.o) HG3.o (by simpa only [HP.o] using HR2);exact⟨this.1,(NKeep.of_below HB.o).trans this.2⟩
 ·have HR:=Hh (show yJ (pre++[⟨p',deep,.mk k d e ks⟩])=yJ pre by rw[qBq,qEG ⟨p',deep,.mk k d e ks⟩ hk,List.append_nil]);clear hk;go_enter Tryz.func107,Tryz.ntmps107;go_wp2;go_end0;refine⟨rfl,?_,NKeep.of_below HB.o⟩;obtain⟨q2,q3,q4⟩:=HS1.o;exact⟨by rw[HR.o];exact q2,q3,q4⟩
theorem qEg:∀ args w,(callFunc 107 args).run Tryz.prog w=.ok (.enter 107 args) w:=enters_of Tryz.func107 (by kernel_rfl) rfl
theorem qIq (n:Nd):qR n=yJ (items n):=rfl
theorem qCY (p:Nat→Addr)(n:Nd)(vs:List Value)(w:World)(hE:Errs w p)(hn:NodeAt w n vs) :
  Calls Tryz.prog 63 #[.agg vs.toArray] w (dL (qR n) w):=by
 have HR:=Hh (qIq n);generalize qR n=res at HR;have HE:=Hh hE;have HN:=Hh hn;obtain⟨k,d,e,ks⟩:=n;obtain⟨A,c,rfl,_,_⟩:=hn.open;clear hE hn;have hbl:Below w.heap.size w ((w.alloc (.cells #[.string ⟨k.toArray⟩,.string ⟨d.toArray⟩,.bool e,.slice A ks.length c] 134)).alloc (.cells #[.slice none 0 0] 22)):=((zB _ w).alloc (zo _) _).alloc (by simp) _;have k2:((w.alloc (.cells #[.string ⟨k.toArray⟩,.string ⟨d.toArray⟩,.bool e,.slice A ks.length c] 134)).alloc (.cells #[.slice none 0 0] 22)).heap[w.heap.size+1]?=some (.cells #[.slice none 0 0] 22 (0,0)):=by
  have:=zK1 (w.alloc (.cells #[.string ⟨k.toArray⟩,.string ⟨d.toArray⟩,.bool e,.slice A ks.length c] 134)) (.cells #[.slice none 0 0] 22);simpa using this
 have h0:PSt w ((w.alloc (.cells #[.string ⟨k.toArray⟩,.string ⟨d.toArray⟩,.bool e,.slice A ks.length c] 134)).alloc (.cells #[.slice none 0 0] 22)) (w.heap.size+1) [] :=
  ⟨⟨none,0,k2,zF1 _ _ _ _⟩,by omega,hbl⟩
 have h:=pE p w HE.o (.mk k d e ks) _ HN.o 107 #[.pointer (some ⟨w.heap.size+1,0,none⟩)] qEg
  (fun l W=>PSt w W (w.heap.size+1) l) (fun pre W W' h hb=>h.later hb) (fun pre W h=>h.below)
  (fun ht pre x W vs hI hnx hr=>by
   obtain⟨i1,i2⟩:=items_well ht
   obtain⟨rest,hr⟩:=hr
   have hlen:pre.length≤200:=by
    have:=congrArg List.length hr
    simp at this
    omega
   have:=qEo pre
   exact qIt x vs hI w hnx (by omega)) _ h0
 have HH:=Hh h;clear h h0 k2 hbl;go_enter Tryz.func63,Tryz.ntmps63;go_upto_region 3 with (go_at_call 106;refine HH.o.mono ?_;rintro ev w2 ⟨rfl,hI,_⟩;obtain⟨Ao,co,ho1,ho2⟩:=hI.o;have HB2:=Hh hI.below;have HO2:=Hh ho2;have c5:=cell_of_one ho1;clear ho1 ho2 hI);go_wp2;go_ret;rw[← HR.o] at HO2;exact⟨Ao,co,by rw[← HR.o];rfl,HO2.o,HB2.o⟩
end Go.Proofs.YtbmkaekimccdgaaGreatDoor
