/- Texts of this claim, merged: StoTell, PlacePure, ShelfC, Insert, GcPure. -/
import Derived.Shelf.Lays2
import Derived.Shelf.Spec.SearchS
import Derived.Shelf.Spec.SlicesInsert
import Derived.Shelf.Spec.SlicesInsertGrow
import Derived.Sort.Walk0
import Derived.Test.YtceklhjomhjipaaGreatDoorKm34
set_option maxHeartbeats 16000000
set_option maxRecDepth 1000000
set_option linter.all false
namespace Go.Proofs.YtceklhjomhjipaaGreatDoor
open Go.RowKit Go.Sort Go.Shelf Stl
theorem qP7 (s:Sto) (line:List UInt8):s.tell line=match qEY s line with
  | some x=>.ok x
  | none=>match cutAt 32 line with
   | none=>.error 1
   | some (word,rest) =>
    if word=[114,101,97,100] then s.read rest
    else if word=[114,101,102,115]∨word=[117,115,101,114,115]∨word=[110,101,101,100] then qI8 s word rest
    else if word=[119,104,101,114,101] then qF5 s rest
    else .error 1:=by
 unfold Sto.tell qEY
 by_cases h1:line=[108,105,115,116]
 ·rw [zM1 h1,zM1 h1]
 rw [zL1 h1,zL1 h1]
 by_cases h2:line=[114,111,111,116,115]
 ·rw [zM1 h2,zM1 h2]
 rw [zL1 h2,zL1 h2]
 by_cases h3:line=[102,114,101,101]
 ·rw [zM1 h3,zM1 h3]
 rw [zL1 h3,zL1 h3]
 by_cases h4:line=[115,97,118,101,100]
 ·rw [zM1 h4,zM1 h4]
 rw [zL1 h4,zL1 h4]
 by_cases h5:line=[115,99,97,110]
 ·rw [zM1 h5,zM1 h5]
 rw [zL1 h5,zL1 h5]
 cases cutAt 32 line with
 | none=>rfl
 | some q =>
  obtain ⟨word,rest⟩:=q
  simp only
  by_cases g1:word=[114,101,97,100]
  ·rw [zM1 g1,zM1 g1]
  rw [zL1 g1,zL1 g1]
  unfold qI8 qF5
  by_cases g2:word=[114,101,102,115]
  ·refine (zM1 g2).trans (Eq.trans ?_ (zM1 (.inl g2)).symm)
   cases s.find rest with
   | none=>rfl
   | some p=>simp only;rw [zM1 g2]
  refine (zL1 g2).trans ?_
  by_cases g3:word=[117,115,101,114,115]
  ·refine (zM1 g3).trans (Eq.trans ?_ (zM1 (.inr (.inl g3))).symm)
   cases s.find rest with
   | none=>rfl
   | some p=>simp only;rw [zL1 g2,zM1 g3];rfl
  refine (zL1 g3).trans ?_
  by_cases g4:word=[110,101,101,100]
  ·refine (zM1 g4).trans (Eq.trans ?_ (zM1 (.inr (.inr g4))).symm)
   cases s.find rest with
   | none=>rfl
   | some p=>simp only;rw [zL1 g2,zL1 g3];rfl
  refine (zL1 g4).trans (Eq.trans ?_ (zL1 (fun h=>h.elim g2 fun h=>h.elim g3 g4)).symm)
  by_cases g5:word=[119,104,101,114,101]
  ·rw [zM1 g5,zM1 g5];cases numberOf rest 6<;>rfl
  ·rw [zL1 g5,zL1 g5]
section
variable {w:World} {A:Option Addr} {zs:List PkX} {c:Nat→Col} {b:Nat} {s:Sto} {bd:Nat} {cap:Nat} {R:Option Addr} {rc tp:Nat} {p:Nat→Addr}
theorem TlPost.lay {w1:World} {r:Except Nat (List UInt8)} {ev:Ending} {w':World} (hb:Below w.heap.size w w1) (h:TlPost p w1 r ev w') :
  ∃ (a:ByteArray) (er:Value),ev=.returned (.tuple #[.string a,er])∧TlPost p w r (.returned (.tuple #[.string a,er])) w':=by
 obtain ⟨a,er,rfl,he,hm⟩:=h
 exact ⟨a,er,rfl,a,er,rfl,hb.trans (he.mono hb.size),hm⟩
theorem qLa (h:StoX w c b s bd A cap zs R rc tp) (hg:qAS s) (hE:Env w c p) (line:List UInt8) (hr:line.length≤1000000) :
  Calls Tryz.prog 19 #[.pointer (some ⟨b,0,none⟩),.string ⟨line.toArray⟩] w (TlPost p w (s.tell line)):=by
 have H:=Hh h
 have HG:=Hh hg
 have HE:=Hh hE
 have HPL:=Hh (qNH h hg hE line)
 obtain ⟨res,hres⟩:∃ res,res=s.tell line:=⟨_,rfl⟩
 rw [← hres]
 rw [qP7] at hres
 obtain ⟨pl,hpl⟩:∃ pl,pl=qEY s line:=⟨_,rfl⟩
 rw [← hpl] at HPL hres
 clear h hg hE hpl
 go_enter Tryz.func19,Tryz.ntmps19
 cases pl with
 | some x =>
  go_upto_region 3 with (go_at_call 43;refine HPL.out.mono ?_;rintro ev w1 ⟨a1,is1,rfl,hb1,rfl,rfl⟩;have HB1:=Hh hb1;clear hb1)
  go_wp2
  go_ret2
  rw [hres]
  exact ⟨_,_,rfl,HB1.out,rfl,rfl⟩
 | none =>
  go_upto_region 4 with (go_at_call 43;refine HPL.out.mono ?_;rintro ev w1 ⟨a1,is1,rfl,hb1,rfl⟩;have HB1:=Hh hb1;clear hb1)
  have HE1:=Hh (HE.out.below HB1.out)
  cases hc:cutAt 32 line with
  | none =>
   rw [hc] at hres
   have HRS:=Hh (show res=.error 1 from hres)
   have HCUT:=Hh (qE8 32 hc (by omega) w1 HE1.out.max)
   clear hc hres
   go_upto_region 12 with (go_at_call 37;refine HCUT.out.mono ?_;rintro ev w2 ⟨rfl,hb2⟩;have HB2:=Hh (HB1.out.trans (hb2.mono HB1.out.size));clear hb2)
   have hg:w2.cell? ⟨3,0,none⟩=some (.iface 377 (.pointer (some (p 1)))):=((HE.out.errs.later HB2.out).cell 1 (by decide) (by decide)).trans (by rw [qAc p (by decide)])
   go_quiet (fail)
   go_wp2
   go_ret2
   rw [HRS.out]
   exact ⟨_,_,rfl,Below.drewN HB2.out _,by rw [qAc p (by decide)];rfl,by decide⟩
  | some q =>
   obtain ⟨word,rest⟩:=q
   rw [hc] at hres
   simp only at hres
   have hnl:=qDV 32 hc
   have HCUT:=Hh (qDh 32 hc (by omega) w1 HE1.out.max)
   clear hc
   go_upto_region 5 with (go_at_call 37;refine HCUT.out.mono ?_;rintro ev w2 ⟨rfl,hb2⟩;have HB2:=Hh (HB1.out.trans (hb2.mono HB1.out.size));clear hb2)
   have HX2:=Hh (H.out.below HB2.out)
   have HE2:=Hh (HE.out.below HB2.out)
   cases g1:word==[114,101,97,100] with
   | true =>
    rw [zM1 (eq_of_beq g1)] at hres
    have HRS:=Hh hres
    have HC:=Hh (qNe HX2.out HG.out HE2.out rest (by omega))
    clear hres
    go_wp2_with (go_at_call 44;refine HC.out.mono ?_;intro ev w3 hp;obtain ⟨a,er,rfl,hq⟩:=hp.lay HB2.out;have HP:=Hh hq;clear hp hq)
    go_ret2
    rw [HRS.out]
    exact HP.out
   | false =>
    rw [zL1 (by simpa using g1)] at hres
    have HC:=Hh (qPy HX2.out HG.out HE2.out word rest)
    cases g2:word==[114,101,102,115] with
    | true =>
     rw [zM1 (.inl (eq_of_beq g2))] at hres
     have HRS:=Hh hres
     clear hres
     go_wp2_with (go_at_call 45;refine HC.out.mono ?_;intro ev w3 hp;obtain ⟨a,er,rfl,hq⟩:=hp.lay HB2.out;have HP:=Hh hq;clear hp hq)
     go_ret2
     rw [HRS.out]
     exact HP.out
    | false =>
     cases g3:word==[117,115,101,114,115] with
     | true =>
      rw [zM1 (.inr (.inl (eq_of_beq g3)))] at hres
      have HRS:=Hh hres
      clear hres
      go_wp2_with (go_at_call 45;refine HC.out.mono ?_;intro ev w3 hp;obtain ⟨a,er,rfl,hq⟩:=hp.lay HB2.out;have HP:=Hh hq;clear hp hq)
      go_ret2
      rw [HRS.out]
      exact HP.out
     | false =>
      cases g4:word==[110,101,101,100] with
      | true =>
       rw [zM1 (.inr (.inr (eq_of_beq g4)))] at hres
       have HRS:=Hh hres
       clear hres
       go_wp2_with (go_at_call 45;refine HC.out.mono ?_;intro ev w3 hp;obtain ⟨a,er,rfl,hq⟩:=hp.lay HB2.out;have HP:=Hh hq;clear hp hq)
       go_ret2
       rw [HRS.out]
       exact HP.out
      | false =>
       rw [zL1 (by rintro (h | h | h)<;>(rw [h] at g2 g3 g4;first | (exact absurd g2 (by decide)) | (exact absurd g3 (by decide)) | (exact absurd g4 (by decide))))] at hres
       cases g5:word==[119,104,101,114,101] with
       | true =>
        rw [zM1 (eq_of_beq g5)] at hres
        have HRS:=Hh hres
        have HC2:=Hh (qMv HX2.out HG.out HE2.out rest (by omega))
        clear hres
        go_wp2_with (go_at_call 46;refine HC2.out.mono ?_;intro ev w3 hp;obtain ⟨a,er,rfl,hq⟩:=hp.lay HB2.out;have HP:=Hh hq;clear hp hq)
        go_ret2
        rw [HRS.out]
        exact HP.out
       | false =>
        rw [zL1 (by simpa using g5)] at hres
        have HRS:=Hh hres
        clear hres
        go_upto_region 12 with fail
        have hg:w2.cell? ⟨3,0,none⟩=some (.iface 377 (.pointer (some (p 1)))):=((HE.out.errs.later HB2.out).cell 1 (by decide) (by decide)).trans (by rw [qAc p (by decide)])
        go_quiet (fail)
        go_wp2
        go_ret2
        rw [HRS.out]
        exact ⟨_,_,rfl,Below.drewN HB2.out _,by rw [qAc p (by decide)];rfl,by decide⟩
end
end Go.Proofs.YtceklhjomhjipaaGreatDoor
namespace Stl
def place (s:Bytes):List Bytes→Nat
 | []=>0
 | x::r=>if x<s then place s r+1 else 0
theorem qHE (s:Bytes):∀ l,place s l≤l.length
 | []=>zq _
 | x::r=>by
  unfold place
  split
  ·have:=qHE s r
   simp only [zQ]
   omega
  ·exact zx _
theorem qI4 (s:Bytes):∀ (l:List Bytes) (t:Nat),t<place s l→∃ x,l[t]?=some x∧x<s
 | [],t,h=>by simp [place] at h
 | x::r,t,h=>by
  unfold place at h
  split at h
  ·rename_i hx
   cases t with
   | zero=>exact ⟨x,rfl,hx⟩
   | succ t=>simpa using qI4 s r t (by omega)
  ·omega
theorem qGS (s:Bytes):∀ (l:List Bytes),Rise l→∀ (t:Nat) x,place s l≤t→l[t]?=some x→¬ x<s
 | [],_,t,x,_,h=>by simp at h
 | y::r,hr,t,x,ht,h=>by
  obtain ⟨h1,h2⟩:=zj.1 hr
  unfold place at ht
  split at ht
  ·cases t with
   | zero=>omega
   | succ t=>exact qGS s r h2 t x (by omega) (by simpa using h)
  ·rename_i hy
   cases t with
   | zero =>
    have:y=x:=by simpa using h
    rw [← this];exact hy
   | succ t =>
    have hx:x∈r:=List.mem_of_getElem? (by simpa using h)
    intro hxs
    exact hy (List.lt_trans (h1 x hx) hxs)
theorem qHU (s:Bytes):∀ (l:List Bytes),Rise l→(s∈l↔l[place s l]?=some s)
 | [],_=>by simp [place]
 | x::r,hr=>by
  obtain ⟨h1,h2⟩:=zj.1 hr
  unfold place
  by_cases hx:x<s
  ·rw [zM1 hx]
   have hne:x≠s:=fun e=>by subst e;exact List.lt_irrefl _ hx
   rw [zY]
   have:=qHU s r h2
   simp only [List.getElem?_cons_succ]
   rw [← this]
   constructor
   ·rintro (h | h)
    ·exact absurd h.symm hne
    ·exact h
   ·exact .inr
  ·rw [zL1 hx]
   simp only [List.getElem?_cons_zero,zB1]
   constructor
   ·intro h
    rcases zY.1 h with h | h
    ·exact h.symm
    ·exact absurd (h1 s h) hx
   ·intro h;rw [h];simp
theorem qIa (s:Bytes):∀ (l:List Bytes),s∉l→ins s l=l.take (place s l)++s::l.drop (place s l)
 | [],_=>rfl
 | x::r,h=>by
  unfold ins place
  by_cases hx:x<s
  ·rw [zM1 hx,zM1 hx,qIa s r (fun h2=>h (by simp [h2]))]
   rfl
  ·rw [zL1 hx,zL1 hx,zL1 (fun e=>h (by simp [e]))]
   rfl
end Stl
namespace Go.Proofs
open Go.Shelf
def Tryz.searchS_ren:Go.Shelf.Ren:=⟨fun | 26=>79 | 33=>135 | 34=>136 | 38=>199 | n=>n,fun | 24=>22 | 9=>9 | 3=>3 | 4=>4 | 40=>118 | 0=>0 | n=>n,fun | n=>n⟩
theorem Tryz.searchS:Go.Proofs.Lays2.n26 Tryz.prog Tryz.searchS_ren:={
 mixed:=by kernel_rfl
 f26:=Tryz.func79.trans (congrArg some (by kernel_rfl))
 f33:=Tryz.func135.trans (congrArg some (by kernel_rfl))
 f34:=Tryz.func136.trans (congrArg some (by kernel_rfl))
 f38:=Tryz.func199.trans (congrArg some (by kernel_rfl))
 t0:=Tryz.underlying0
 a0:=Tryz.isAgg0
 z0:=Tryz.sizeOf0
 v0:=Tryz.zeroValue0
 t3:=Tryz.underlying3
 a3:=Tryz.isAgg3
 z3:=Tryz.sizeOf3
 v3:=Tryz.zeroValue3
 t4:=Tryz.underlying4
 a4:=Tryz.isAgg4
 z4:=Tryz.sizeOf4
 v4:=Tryz.zeroValue4
 t9:=Tryz.underlying9
 a9:=Tryz.isAgg9
 z9:=Tryz.sizeOf9
 v9:=Tryz.zeroValue9
 t24:=Tryz.underlying22
 a24:=Tryz.isAgg22
 z24:=Tryz.sizeOf22
 v24:=Tryz.zeroValue22
 t40:=Tryz.underlying118
 a40:=Tryz.isAgg118
 z40:=Tryz.sizeOf118
 v40:=Tryz.zeroValue118 }
def Tryz.insertS_ren:Go.Shelf.Ren:=⟨fun | 22=>80 | 29=>137 | 30=>138 | 36=>200 | 17=>247 | n=>n,fun | 24=>22 | 9=>9 | 3=>3 | 4=>4 | 0=>0 | n=>n,fun | n=>n⟩
theorem Tryz.insertS:Go.Proofs.Lays2.n22 Tryz.prog Tryz.insertS_ren:={
 mixed:=by kernel_rfl
 f17:=Tryz.func247.trans (congrArg some (by kernel_rfl))
 f22:=Tryz.func80.trans (congrArg some (by kernel_rfl))
 f29:=Tryz.func137.trans (congrArg some (by kernel_rfl))
 f30:=Tryz.func138.trans (congrArg some (by kernel_rfl))
 f36:=Tryz.func200.trans (congrArg some (by kernel_rfl))
 t0:=Tryz.underlying0
 a0:=Tryz.isAgg0
 z0:=Tryz.sizeOf0
 v0:=Tryz.zeroValue0
 t3:=Tryz.underlying3
 a3:=Tryz.isAgg3
 z3:=Tryz.sizeOf3
 v3:=Tryz.zeroValue3
 t4:=Tryz.underlying4
 a4:=Tryz.isAgg4
 z4:=Tryz.sizeOf4
 v4:=Tryz.zeroValue4
 t9:=Tryz.underlying9
 a9:=Tryz.isAgg9
 z9:=Tryz.sizeOf9
 v9:=Tryz.zeroValue9
 t24:=Tryz.underlying22
 a24:=Tryz.isAgg22
 z24:=Tryz.sizeOf22
 v24:=Tryz.zeroValue22
 i9:=by kernel_rfl }
end Go.Proofs
namespace Go.Proofs.YtceklhjomhjipaaGreatDoor
open Go.RowKit Go.Sort Go.Shelf Stl
theorem qGP {w:World} {A:Option Addr} {cap:Nat} {l:List (List UInt8)} (h:Strs w (.slice A l.length cap) l) (hr:Rise l) (hl:l.length≤1000000) (s:List UInt8) :
  Calls Tryz.prog 79 #[.slice A l.length cap,.string ⟨s.toArray⟩] w fun e w'=>e=.returned (.tuple #[.int .i64 (place s l:Nat),.bool (decide (s∈l))])∧Below w.heap.size w w':=by
 by_cases hn:l=[]
 ·subst hn
  refine (Any2.slices_BinarySearch_string_empty Tryz.searchS A cap ⟨s.toArray⟩ w).mono ?_
  rintro e w' ⟨rfl,rfl⟩
  exact ⟨rfl,zB _ _⟩
 ·obtain ⟨A2,c2,e,h1⟩:=h
  injection e with e1 e2 e3
  subst e1 e3
  obtain ⟨b,off,rfl,hb,hc⟩:=h1 hn
  have hs:=Any2.slices_BinarySearch_string Tryz.searchS b off l.length cap (fun t=>⟨(l[t]?.getD s).toArray⟩) ⟨s.toArray⟩ w (by omega) (fun j hj=>by
   have:=hc j l[j] (zL hj)
   rw [this]
   simp [hj])
  have hless:Lib.bsGo (fun t=>Op.bytesLess (⟨(l[t]?.getD s).toArray⟩:ByteArray).toList (⟨s.toArray⟩:ByteArray).toList) l.length 0 l.length=place s l:=by
   refine Lib.bsGo_spec _ (place s l) (fun t ht=>?_) (fun t ht=>?_) l.length 0 l.length (by omega) (zx _) (qHE s l)
   ·obtain ⟨x,hx,hlt⟩:=qI4 s l t ht
    simp only [hx,zy]
    rw [bytesLess_eq]
    simpa using hlt
   ·rw [bytesLess_eq]
    cases hx:l[t]? with
    | none=>simp
    | some x =>
     have:=qGS s l hr t x ht hx
     simpa using this
  rw [hless] at hs
  have hfd:decide (place s l<l.length∧(⟨(l[place s l]?.getD s).toArray⟩:ByteArray)=⟨s.toArray⟩)=decide (s∈l):=by
   apply decide_eq_decide.2
   rw [qHU s l hr]
   constructor
   ·rintro ⟨h1,h2⟩
    have h3:(l[place s l]?.getD s).toArray=s.toArray:=by injection h2
    rw [zL h1] at h3 ⊢
    simp only [zy] at h3
    have h4:=congrArg Array.toList h3
    simp only at h4
    rw [h4]
   ·intro h2
    exact ⟨(zM.1 h2).1,by rw [h2];rfl⟩
  rw [hfd] at hs
  refine hs.mono ?_
  rintro e w' ⟨rfl,q,rfl⟩
  exact ⟨rfl,Below.drewN (zB _ w) q⟩
theorem qLb {w:World} {base:Nat} {e:TypeId} {size g n cap:Nat} {xs:List Value} (h:w.ownsRow base e size (.slice (some ⟨g,0,none⟩) n cap) n xs):∃ ys,w.ownsRow base e size (.slice (some ⟨g,0,none⟩) cap cap) cap ys∧ys.take (n*size)=xs∧n≤cap∧cap≤maxLen∧g<w.heap.size:=by
 rcases h.2 with ⟨e1,_⟩ | ⟨g',cp,cur,e1,h2,h3,h4,h5,h6,h7⟩
 ·cases e1
 ·injection e1 with a1 a2 a3
  injection a1 with a1
  injection a1 with a1 _ _
  subst a1 a3
  refine ⟨cur.toList,⟨by rw [Array.length_toList];exact h6,.inr ⟨g,cap,cur,rfl,h2,h3,zq _,h5,h6,by rw [← h6,← Array.length_toList,zm]⟩⟩,h7,h4,h5,qAa h3⟩
theorem qKS {w:World} {base:Nat} {e:TypeId} {cur:Array Value} (hb:base≤w.heap.size) (hm:cur.size≤maxLen):(w.alloc (.cells cur e)).ownsRow base e 1 (.slice (some ⟨w.heap.size,0,none⟩) cur.size cur.size) cur.size cur.toList :=
 ⟨by simp,.inr ⟨w.heap.size,cur.size,cur,rfl,hb,zK1 w _,zq _,hm,by simp,by rw [Nat.mul_one,← Array.length_toList,zm]⟩⟩
theorem qEI {w:World} {A:Option Addr} {cap:Nat} {l:List (List UInt8)} {base:Nat} (h:w.ownsRow base 9 1 (.slice A l.length cap) l.length (l.map encStr)):(A=none∧l=[]∧cap=0)∨∃ g,A=some ⟨g,0,none⟩:=by
 rcases h.2 with ⟨e1,h0⟩ | ⟨g,cp,cur,e1,_⟩
 ·injection e1 with e1 e2 e3
  exact .inl ⟨e1,zR.1 h0,e3⟩
 ·injection e1 with e1 _ _
  exact .inr ⟨g,e1⟩
def qQm (w:World) (base:Nat) (A:Option Addr) (l':List (List UInt8)) (e:Ending) (w':World):Prop :=
 ∃ (A':Option Addr) (cap':Nat) (row:Option Nat),e=.returned (.slice A' l'.length cap')∧w'.ownsRow base 9 1 (.slice A' l'.length cap') l'.length (l'.map encStr)∧w.grownBy w' row∧(∀ k,row=some k→A=some ⟨k,0,none⟩)∧(A'=A∨∃ g,A'=some ⟨g,0,none⟩∧w.heap.size≤g)
theorem qJy {w w1 w2:World} {row:Option Nat} (h:w.grownBy w1 row) (k:w1.grownBy w2 row):w.grownBy w2 row :=
 ⟨k.os.trans h.os,k.tape.trans h.tape,k.output.trans h.output,zr h.size k.size,fun i hi hne=>(k.block i (zu hi h.size) hne).trans (h.block i hi hne)⟩
theorem qLh {w:World} {base:Nat} {A:Option Addr} {cap:Nat} {l:List (List UInt8)} (h:w.ownsRow base 9 1 (.slice A l.length cap) l.length (l.map encStr)) (hb:base≤w.heap.size) (hl:l.length≤1000000) (k:Nat) (hk:k≤l.length) (s:List UInt8) (vb:Nat) (hv:w.heap[vb]?=some (.cells #[.string ⟨s.toArray⟩] 9 (0,0))) (hva:∀ g,A=some ⟨g,0,none⟩→vb≠g) :
  Calls Tryz.prog 80 #[.slice A l.length cap,.int .i64 k,.slice (some ⟨vb,0,none⟩) 1 1] w (qQm w base A (l.take k++s::l.drop k)):=by
 have hlen:(l.take k++s::l.drop k).length=l.length+1:=by simp;omega
 have hvs:∀ j v,[Value.string ⟨s.toArray⟩][j]?=some v→w.cell? ⟨vb,0+j,none⟩=some v:=fun j v hj=>by
  have hj0:j=0:=by have:=(zM.1 hj).1;simpa using this
  subst hj0
  have:v=.string ⟨s.toArray⟩:=by simpa using hj.symm
  rw [this]
  exact zJ1 w vb 0 _ _ _ hv
 have h1v:∀ v∈[Value.string ⟨s.toArray⟩],v.oneCell'=true:=fun v hv=>by rw [zh.1 hv];rfl
 have h1c:∀ v∈l.map encStr,v.oneCell'=true:=qHb l
 have hncap:=qBG h
 by_cases hroom:l.length+1≤cap
 ·rcases qEI h with ⟨rfl,rfl,rfl⟩ | ⟨g,rfl⟩
  ·simp at hroom
  ·obtain ⟨ys,hw,hys,_,hcm,hgl⟩:=qLb h
   rw [Nat.mul_one] at hys
   have hyl:ys.length=cap:=by have:=hw.1;omega
   have hcs:∀ j v,(l.map encStr)[j]?=some v→w.cell? ⟨g,0+j,none⟩=some v:=fun j v hj=>by
    have hjl:=(zM.1 hj).1
    rw [zT] at hjl
    rw [zw,h.cellAt j (by omega)]
    exact hj
   have hsp:∀ j,j<cap→(w.cell? ⟨g,j,none⟩).isSome=true:=fun j hj=>by
    rw [hw.cellAt j (by omega),zL (by omega)]
    rfl
   unfold maxLen at hcm
   by_cases hki:k<l.length
   ·have hsa:w.shape? vb=some (9,1):=by unfold World.shape?;rw [hv];rfl
    obtain ⟨cur,hg,hcur⟩:∃ cur,w.heap[g]?=some (.cells cur 9 (0,0))∧cur.size=cap:=by
     rcases h.2 with ⟨e1,_⟩ | ⟨g',cp,cur,e1,h2,h3,h4,h5,h6,h7⟩
     ·cases e1
     ·injection e1 with a1 a2 a3
      injection a1 with a1
      injection a1 with a1 _ _
      subst a1 a3
      exact ⟨cur,h3,by omega⟩
    have hsb:w.shape? g=some (9,cap):=by unfold World.shape?;rw [hg,← hcur]
    refine (Any2.slices_Insert_string_shift Tryz.insertS g 0 l.length cap k vb 0 1 1 (l.map encStr) [.string ⟨s.toArray⟩] w hki (by omega) hroom (by omega) (hva g rfl) (by simp) rfl hcs (fun j hj=>by rw [zw];exact hsp j (by omega)) (fun j _=>h.frozenAt _) hvs h1c h1v _ _ 1 cap hsa hsb (by omega) (qAb hv 0) (qAb hv 1)).mono ?_
    rintro e w' ⟨rfl,rfl⟩
    obtain ⟨a1,a2⟩:=qAU (w:=w.drew) hw ((l.map encStr).drop k) (0+(k+1)) (by rw [hyl];simp;omega)
    obtain ⟨b1,b2⟩:=qAU a1 [.string ⟨s.toArray⟩] (0+k) (by rw [a1.1];simp;omega)
    have c1:=qBA b1 (m:=l.length+1) (by omega)
    refine ⟨_,cap,some g,by rw [hlen],?_,⟨b2.os.trans a2.os,b2.tape.trans a2.tape,b2.output.trans a2.output,zr a2.size b2.size,fun i hi hne=>(b2.block i (zu hi a2.size) hne).trans (a2.block i hi hne)⟩,fun k hk=>by injection hk with hk;rw [hk],.inl rfl⟩
    rw [hlen]
    have:((ys.take (0+(k+1))++(l.map encStr).drop k++ys.drop (0+(k+1)+((l.map encStr).drop k).length)).take (0+k)++[Value.string ⟨s.toArray⟩]++(ys.take (0+(k+1))++(l.map encStr).drop k++ys.drop (0+(k+1)+((l.map encStr).drop k).length)).drop (0+k+[Value.string ⟨s.toArray⟩].length)).take ((l.length+1)*1)=(l.take k++s::l.drop k).map encStr:=by
     have hy1:ys.take k=(l.map encStr).take k:=by rw [← hys,List.take_take,Nat.min_eq_left hk]
     have e1:(ys.take (0+(k+1))).length=k+1:=by rw [List.length_take];omega
     have e2:((l.map encStr).drop k).length=l.length-k:=by simp
     have t1:(ys.take (0+(k+1))++(l.map encStr).drop k++ys.drop (0+(k+1)+((l.map encStr).drop k).length)).take (0+k)=(l.map encStr).take k:=by
      rw [List.append_assoc,zk (by omega),List.take_take,Nat.min_eq_left (by omega),zw,hy1]
     have t2:(ys.take (0+(k+1))++(l.map encStr).drop k++ys.drop (0+(k+1)+((l.map encStr).drop k).length)).drop (0+k+[Value.string ⟨s.toArray⟩].length)=(l.map encStr).drop k++ys.drop (0+(k+1)+((l.map encStr).drop k).length):=by
      rw [List.append_assoc,show 0+k+[Value.string ⟨s.toArray⟩].length=(ys.take (0+(k+1))).length by rw [e1];simp,List.drop_left]
     rw [t1,t2,← List.append_assoc,zk (by simp;omega),zn (by simp;omega)]
     simp [encStr,List.map_take,List.map_drop]
    rw [← this]
    exact c1
   ·obtain rfl:k=l.length:=by omega
    refine (Any2.slices_Insert_string_end_room Tryz.insertS g 0 l.length cap vb 0 1 1 [.string ⟨s.toArray⟩] w (by omega) hroom (by omega) rfl (fun j hj=>by rw [zw];exact hsp _ (by omega)) (fun j _=>h.frozenAt _) hvs h1v).mono ?_
    rintro e w' ⟨rfl,rfl⟩
    obtain ⟨a1,a2⟩:=qAU hw [.string ⟨s.toArray⟩] (0+l.length) (by rw [hyl];simp;omega)
    have c1:=qBA a1 (m:=l.length+1) (by omega)
    refine ⟨_,cap,some g,by rw [hlen],?_,a2,fun k hk=>by injection hk with hk;rw [hk],.inl rfl⟩
    rw [hlen]
    have:(ys.take (0+l.length)++[Value.string ⟨s.toArray⟩]++ys.drop (0+l.length+[Value.string ⟨s.toArray⟩].length)).take ((l.length+1)*1)=(l.take l.length++s::l.drop l.length).map encStr:=by
     rw [zw,hys,zk (by simp),zn (by simp)]
     simp [encStr]
    rw [← this]
    exact c1
 ·have hgc:∀ C,C=grownCap w (l.length+1) cap 9→l.length+1≤C∧C≤maxLen:=fun C hC=>by
   subst hC
   exact ⟨grownCap_ge w (l.length+1) cap _,grownCap_le_maxLen w (l.length+1) cap _ (by unfold maxLen;omega)⟩
  have hbig:(l.length+1)*16≤140737488355328:=by omega
  by_cases hki:k<l.length
  ·rcases qEI h with ⟨rfl,rfl,rfl⟩ | ⟨g,rfl⟩
   ·simp at hki
   ·have hcs:∀ j v,(l.map encStr)[j]?=some v→w.cell? ⟨g,0+j,none⟩=some v:=fun j v hj=>by
     have hjl:=(zM.1 hj).1
     rw [zT] at hjl
     rw [zw,h.cellAt j (by omega)]
     exact hj
    have hres:=Any2.slices_Insert_string_grow Tryz.insertS g 0 l.length cap k vb 0 1 1 (l.map encStr) [.string ⟨s.toArray⟩] w hki (by omega) hncap (by omega) hbig (by simp) rfl hcs hvs h1c h1v
    obtain ⟨C,hC⟩:∃ C,C=grownCap w (l.length+1) cap 9:=⟨_,rfl⟩
    obtain ⟨g1,g2⟩:=hgc C hC
    obtain ⟨cur,hcur⟩:∃ cur,cur=(((l.map encStr).take k).toArray++Builtin.zeroCells (Value.string ⟨#[]⟩).cells (l.length+1-k)++Builtin.zeroCells (Value.string ⟨#[]⟩).cells (C-(l.length+1))):=⟨_,rfl⟩
    have hcz:cur.size=C:=by
     rw [hcur]
     simp only [Array.size_append,List.size_toArray,List.length_take,zT,size_zeroCells]
     show min k l.length+(l.length+1-k)*1+(C-(l.length+1))*1=C
     omega
    refine hres.mono ?_
    rintro e w' ⟨rfl,hw'⟩
    have hw2:w'=(((w.alloc (.cells cur 9)).drew.setCells w.heap.size k [.string ⟨s.toArray⟩]).drew).setCells w.heap.size (k+1) ((l.map encStr).drop k):=by rw [hw',hcur,hC];rfl
    subst hw2
    have hn:=qKS (w:=w) (base:=base) (e:=9) (cur:=cur) hb (by rw [hcz];exact g2)
    have hcl:cur.toList.length=C:=by rw [Array.length_toList];exact hcz
    obtain ⟨a1,a2⟩:=qAU (w:=(w.alloc (.cells cur 9)).drew) hn [.string ⟨s.toArray⟩] k (by rw [hcl];simp;omega)
    obtain ⟨b1,b2⟩:=qAU (w:=((w.alloc (.cells cur 9)).drew.setCells w.heap.size k [.string ⟨s.toArray⟩]).drew) a1 ((l.map encStr).drop k) (k+1) (by rw [a1.1,hcz];simp;omega)
    have c1:=qBA b1 (m:=l.length+1) (by omega)
    rw [hcz] at c1
    refine ⟨_,C,none,by rw [hlen,hC];rfl,?_,?_,fun k hk=>(by cases hk),.inr ⟨_,rfl,zq _⟩⟩
    ·rw [hlen]
     have e1:(cur.toList.take k)=(l.map encStr).take k:=by
      rw [hcur]
      simp only [Array.toList_append]
      rw [List.append_assoc,List.take_left' (by simp;omega)]
     have e2:(cur.toList.take k++[Value.string ⟨s.toArray⟩]++cur.toList.drop (k+[Value.string ⟨s.toArray⟩].length)).take (k+1)=(l.map encStr).take k++[Value.string ⟨s.toArray⟩]:=by
      rw [e1,List.take_left' (by simp;omega)]
     have:((cur.toList.take k++[Value.string ⟨s.toArray⟩]++cur.toList.drop (k+[Value.string ⟨s.toArray⟩].length)).take (k+1)++(l.map encStr).drop k++(cur.toList.take k++[Value.string ⟨s.toArray⟩]++cur.toList.drop (k+[Value.string ⟨s.toArray⟩].length)).drop (k+1+((l.map encStr).drop k).length)).take ((l.length+1)*1)=(l.take k++s::l.drop k).map encStr:=by
      rw [e2,zk (by simp;omega),zn (by simp;omega)]
      simp [encStr,List.map_take,List.map_drop]
     rw [← this]
     exact c1
    ·refine ⟨b2.os.trans a2.os,b2.tape.trans a2.tape,b2.output.trans a2.output,zr (by simp) (zr a2.size b2.size),fun i hi _=>?_⟩
     have hne:some i≠some w.heap.size:=fun e=>by injection e with e;omega
     exact (b2.block i (zu hi (zr (by simp) a2.size)) hne).trans ((a2.block i (zu hi (by simp)) hne).trans (Below.heap_alloc w _ i hi))
  ·obtain rfl:k=l.length:=by omega
   have hnil:A=none→l.length=0:=fun e=>by
    subst e
    rcases qEI h with ⟨_,rfl,_⟩ | ⟨g,e⟩
    ·rfl
    ·cases e
   have hcs:∀ a,A=some a→∀ j v,(l.map encStr)[j]?=some v→w.cell? (a.add j)=some v:=fun a ha j v hj=>by
    subst ha
    exact qI6 h a rfl j v hj
   have hres:=Any2.slices_Insert_string_end_grow Tryz.insertS A l.length cap vb 0 1 1 (l.map encStr) [.string ⟨s.toArray⟩] w (by omega) hncap (by omega) hbig (by simp) rfl hnil hcs hvs h1v
   obtain ⟨C,hC⟩:∃ C,C=grownCap w (l.length+1) cap 9:=⟨_,rfl⟩
   obtain ⟨g1,g2⟩:=hgc C hC
   obtain ⟨cur,hcur⟩:∃ cur,cur=((l.map encStr++[Value.string ⟨s.toArray⟩]).toArray++Builtin.zeroCells (Value.string ⟨#[]⟩).cells (C-(l.length+1))):=⟨_,rfl⟩
   have hcz:cur.size=C:=by
    rw [hcur]
    simp only [Array.size_append,List.size_toArray,zP,zT,size_zeroCells,zQ,List.length_nil]
    show l.length+(0+1)+(C-(l.length+1))*1=C
    omega
   refine hres.mono ?_
   rintro e w' ⟨rfl,hw'⟩
   have hw2:w'=w.drew.alloc (.cells cur 9):=by rw [hw',hcur,hC];rfl
   subst hw2
   have hn:=qKS (w:=w.drew) (base:=base) (e:=9) (cur:=cur) hb (by rw [hcz];exact g2)
   have c1:=qBA hn (m:=l.length+1) (by omega)
   rw [hcz] at c1
   refine ⟨_,C,none,by rw [hlen,hC];rfl,?_,⟨rfl,rfl,rfl,by simp,fun i hi _=>Below.heap_alloc w.drew _ i hi⟩,fun k hk=>(by cases hk),.inr ⟨_,rfl,zq _⟩⟩
   rw [hlen]
   have:cur.toList.take ((l.length+1)*1)=(l.take l.length++s::l.drop l.length).map encStr:=by
    rw [hcur]
    simp only [Array.toList_append]
    rw [zk (by simp),zn (by simp)]
    simp [encStr]
   rw [← this]
   exact c1
theorem qLA {w:World} {base g cap:Nat} {l:List (List UInt8)} (h:w.ownsRow base 9 1 (.slice (some ⟨g,0,none⟩) l.length cap) l.length (l.map encStr)) (k:Nat) (hk:k<l.length) :
  Calls Tryz.prog 81 #[.slice (some ⟨g,0,none⟩) l.length cap,.int .i64 k,.int .i64 ((k:Int)+1)] w fun e w'=>e=.returned (.slice (some ⟨g,0,none⟩) (l.length-1) cap) ∧
   w'.ownsRow base 9 1 (.slice (some ⟨g,0,none⟩) (l.length-1) cap) (l.length-1) ((l.eraseIdx k).map encStr)∧w.grownBy w' (some g):=by
 have hncap:=qBG h
 have hcm:cap≤9223372036854775807:=by
  rcases h.2 with ⟨e1,_⟩ | ⟨g',cp,cur,e1,_,_,_,h5,_⟩
  ·cases e1
  ·injection e1 with _ _ e3;unfold maxLen at h5;omega
 have hsx:Lib.strsOf (fun t=>(⟨(l[t]?.getD []).toArray⟩:ByteArray)) l.length=l:=by
  unfold Lib.strsOf
  apply List.ext_getElem
  ·simp
  ·intro i h1 h2
   simp [h2]
 have hd:=Tryz.slices_Delete_string_cells g 0 l.length cap k (k+1) (fun t=>(⟨(l[t]?.getD []).toArray⟩:ByteArray)) w hncap hcm (by omega) (by omega) (fun i hi=>by
  rw [zw,h.cellAt i (by omega),zN,zL hi]
  simp [encStr]) (fun j _=>h.frozenAt _)
 rw [hsx] at hd
 have hk1:(((k+1:Nat)):Int)=(k:Int)+1:=by omega
 rw [hk1,show l.length-(k+1-k)=l.length-1 by omega] at hd
 refine hd.mono ?_
 rintro e w' ⟨rfl,q,rfl⟩
 have hq:(w.drewN q).ownsRow base 9 1 (.slice (some ⟨g,0,none⟩) l.length cap) l.length (l.map encStr):=h.kept (Below.toGrown (Below.drewN (zB _ w) q) none) (by cases Value.ownBlock (Value.slice (some ⟨g,0,none⟩) l.length cap)<;>simp)
 obtain ⟨a1,a2⟩:=qAU hq ((l.take k++l.drop (k+1)++List.replicate (k+1-k) []).map encStr) 0 (by simp;omega)
 have c1:=qBA a1 (m:=l.length-1) (by omega)
 refine ⟨rfl,?_,qJy (Below.toGrown (Below.drewN (zB _ w) q) (some g)) a2⟩
 have:(((l.map encStr).take 0++(l.take k++l.drop (k+1)++List.replicate (k+1-k) []).map encStr++(l.map encStr).drop (0+((l.take k++l.drop (k+1)++List.replicate (k+1-k) []).map encStr).length)).take ((l.length-1)*1))=(l.eraseIdx k).map encStr:=by
  rw [List.take_zero,zi,List.eraseIdx_eq_take_drop_succ,zU,List.append_assoc,List.take_left' (by simp;omega)]
 rw [← this]
 exact c1
end Go.Proofs.YtceklhjomhjipaaGreatDoor
namespace Stl
structure qOc (d:Dirs) (l:List Pk) (dead:List Bytes):Prop where
 dirs:qAN d
 ks:l.map (·.k)=d.l.map (·.k)
 names:(l.map (·.name)).Nodup
 nodup:dead.Nodup
 inside:∀ x∈dead,x∈l.map (·.name)
theorem qPn {s:Sto} (hs:qDY s):qOc s.d s.l (qBt s.l s.roots):=⟨hs.dirs,hs.ks,hs.pks.names,qC4 hs.pks.names _,fun _ hx=>(qDt.1 hx).1⟩
theorem erase_filter {α:Type} (f:α→Bytes):∀ {l:List α} {k:Nat} (hk:k<l.length),(l.map f).Nodup→l.eraseIdx k=l.filter fun q=>f q != f l[k]
 | [],k,hk,_=>by simp at hk
 | x::r,0,_,h=>by
  simp only [zV,List.nodup_cons] at h
  have:r.filter (fun q=>f q != f x)=r:=List.filter_eq_self.2 fun q hq=>by
   rw [bne_iff_ne]
   exact fun e=>h.1 (by rw [← e];exact zf hq)
  simp [this]
 | x::r,k+1,hk,h=>by
  simp only [zV,List.nodup_cons] at h
  have hk':k<r.length:=by simpa using hk
  have hne:f x≠f r[k]:=fun e=>h.1 (by rw [e];exact zf (zO hk'))
  rw [List.eraseIdx_cons_succ,erase_filter f hk' h.2]
  simp [zI,hne]
theorem qPu {d:Dirs} {l:List Pk} {nm:Bytes} {r:List Bytes} (h:qOc d l (nm::r)) :
  ∃ k,∃ hk:k<l.length,l[k].name=nm∧(∀ j (hj:j<l.length),l[j].name=nm→j=k)∧∃ e,qAi d.l l[k].k=some e ∧
   ∀ d',d.drop l[k].k=.ok d'→qOc d' (l.eraseIdx k) r∧qAw d l (nm::r)=qAw d' (l.eraseIdx k) r:=by
 obtain ⟨hd,hk,hn,hdn0,hin⟩:=h
 obtain ⟨hdn1,hdn2⟩:=List.nodup_cons.1 hdn0
 obtain ⟨p,hp⟩:=zz.1 (qCC.2 (hin nm (by simp)))
 obtain ⟨hpl,hpn⟩:=qCs hp
 obtain ⟨k,hkl,hpk⟩:=List.getElem_of_mem hpl
 have hkm:p.k∈d.l.map (·.k):=by rw [← hk];exact zf (f:=(·.k)) hpl
 obtain ⟨e,hel,hek⟩:=ze.1 hkm
 have hent:=qAt hd.keys hel
 rw [hek] at hent
 refine ⟨k,hkl,by rw [hpk];exact hpn,fun j hj hjn=>?_,e,by rw [hpk];exact hent,fun d1 h1=>?_⟩
 ·have hpw:=List.pairwise_iff_getElem.1 hn
  rcases Nat.lt_trichotomy j k with h1 | h1 | h1
  ·have h2:=hpw j k (by simpa using hj) (by simpa using hkl) h1
   rw [List.getElem_map,List.getElem_map,hpk,hpn] at h2
   exact absurd hjn h2
  ·exact h1
  ·have h2:=hpw k j (by simpa using hkl) (by simpa using hj) h1
   rw [List.getElem_map,List.getElem_map,hpk,hpn] at h2
   exact absurd hjn.symm h2
 ·rw [hpk] at h1
  obtain ⟨a1,a2,a3,a4⟩:=qJM hd h1
  have hkn:(l.map (·.k)).Nodup:=by
   rw [hk]
   have:(d.l.map (·.k)).Pairwise (·<·):=List.pairwise_map.2 hd.keys
   exact this.imp (fun h=>Nat.ne_of_lt h)
  have hsame:∀ q∈l,(q.name != nm)=(q.k != p.k):=by
   intro q hq
   by_cases hqp:q=p
   ·rw [hqp,hpn];simp
   ·have n1:q.name≠nm:=fun e=>hqp (qA8 (·.name) hn hq hpl (by rw [e,hpn]))
    have n2:q.k≠p.k:=fun e=>hqp (qA8 (·.k) hkn hq hpl e)
    rw [bne_iff_ne.2 n1,bne_iff_ne.2 n2]
  have hl1:(l.filter fun q=>q.name != nm)=l.filter fun q=>q.k != p.k:=List.filter_congr hsame
  have hk1:(l.filter fun q=>q.name != nm).map (·.k)=d1.l.map (·.k):=by
   rw [hl1,a3]
   have e1:(l.filter fun q=>q.k != p.k).map (·.k)=(l.map (·.k)).filter (fun x=>x != p.k):=by rw [List.filter_map];rfl
   have e2:(d.l.filter fun x=>x.k != p.k).map (·.k)=(d.l.map (·.k)).filter (fun x=>x != p.k):=by rw [List.filter_map];rfl
   rw [e1,e2,hk]
  have hn1:((l.filter fun q=>q.name != nm).map (·.name)).Nodup:=(List.filter_sublist.map _).nodup hn
  have hin1:∀ x∈r,x∈(l.filter fun q=>q.name != nm).map (·.name):=by
   intro x hx
   obtain ⟨q,hq,e⟩:=ze.1 (hin x (by simp [hx]))
   refine ze.2 ⟨q,zZ.2 ⟨hq,?_⟩,e⟩
   have:x≠nm:=fun e2=>hdn1 (by rw [← e2];exact hx)
   simp [e,this]
  have her:l.eraseIdx k=l.filter fun q=>q.name != nm:=by
   rw [erase_filter (·.name) hkl hn,hpk,hpn]
  rw [her]
  refine ⟨⟨a1,hk1,hn1,hdn2,hin1⟩,?_⟩
  simp only [qAw,hp,h1]
end Stl
