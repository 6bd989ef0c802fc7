/- Texts of this claim, merged: RefIsName, RefWithB, LawLines. -/
import Derived.Laws.AppendOwnNone
import Derived.Test.YthogfjmnnaoldaaGreatDoorGm34
set_option maxHeartbeats 16000000
set_option maxRecDepth 1000000
set_option linter.all false
namespace Go.Proofs.YthogfjmnnaoldaaGreatDoor
open Go.RowKit
theorem qJe (c:UInt8):Stl.isLetter c=((decide (97≤c.toNat)&&decide (c.toNat≤122))||(decide (48≤c.toNat)&&decide (c.toNat≤57))||decide (c.toNat=46)||decide (c.toNat=45)):=by
 have h:∀ n:Fin 256,Stl.isLetter (UInt8.ofNat n.1)=((decide (97≤(UInt8.ofNat n.1).toNat)&&decide ((UInt8.ofNat n.1).toNat≤122))||(decide (48≤(UInt8.ofNat n.1).toNat)&&decide ((UInt8.ofNat n.1).toNat≤57))||decide ((UInt8.ofNat n.1).toNat=46)||decide ((UInt8.ofNat n.1).toNat=45)):=by decide +kernel
 have:=h ⟨c.toNat,c.toNat_lt⟩
 simpa using this
theorem qIo (c:UInt8) (w:World):Calls Tryz.prog 101 #[.int .u8 c.toNat] w fun e w'=>e=.returned (.bool (Stl.isLetter c))∧w'=w:=by
 have HR:=Hh (qJe c)
 generalize Stl.isLetter c=b at HR
 generalize c.toNat=n at HR
 go_enter Tryz.func101,Tryz.ntmps101
 have hc:(n<45)∨(n=45)∨(n=46)∨(n=47)∨(48≤n∧n≤57)∨(58≤n∧n≤96)∨(97≤n∧n≤122)∨(122<n):=by omega
 rcases hc with h | h | h | h | h | h | h | h
 ·obtain rfl:b=false:=by
   rw [HR.out]
   simp
   omega
  have g97:¬ (97:Int)≤(n:Int):=by omega
  have g48:¬ (48:Int)≤(n:Int):=by omega
  have l122:(n:Int)≤122:=by omega
  have l57:(n:Int)≤57:=by omega
  have e46:((n:Int)==46)=false:=by rw [zH1];omega
  have e45:((n:Int)==45)=false:=by rw [zH1];omega
  clear h
  go_wp2
  go_ret
  exact ⟨rfl,rfl⟩
 ·subst h
  obtain rfl:b=true:=by rw [HR.out];rfl
  go_wp2
  go_ret
  exact ⟨rfl,rfl⟩
 ·subst h
  obtain rfl:b=true:=by rw [HR.out];rfl
  go_wp2
  go_ret
  exact ⟨rfl,rfl⟩
 ·subst h
  obtain rfl:b=false:=by rw [HR.out];rfl
  go_wp2
  go_ret
  exact ⟨rfl,rfl⟩
 ·obtain rfl:b=true:=by
   rw [HR.out]
   simp
   omega
  have g97:¬ (97:Int)≤(n:Int):=by omega
  have g48:(48:Int)≤(n:Int):=by omega
  have l122:(n:Int)≤122:=by omega
  have l57:(n:Int)≤57:=by omega
  have e46:((n:Int)==46)=false:=by rw [zH1];omega
  have e45:((n:Int)==45)=false:=by rw [zH1];omega
  clear h
  go_wp2
  go_ret
  exact ⟨rfl,rfl⟩
 ·obtain rfl:b=false:=by
   rw [HR.out]
   simp
   omega
  have g97:¬ (97:Int)≤(n:Int):=by omega
  have g48:(48:Int)≤(n:Int):=by omega
  have l122:(n:Int)≤122:=by omega
  have l57:¬ (n:Int)≤57:=by omega
  have e46:((n:Int)==46)=false:=by rw [zH1];omega
  have e45:((n:Int)==45)=false:=by rw [zH1];omega
  clear h
  go_wp2
  go_ret
  exact ⟨rfl,rfl⟩
 ·obtain rfl:b=true:=by
   rw [HR.out]
   simp
   omega
  have g97:(97:Int)≤(n:Int):=by omega
  have g48:(48:Int)≤(n:Int):=by omega
  have l122:(n:Int)≤122:=by omega
  have l57:¬ (n:Int)≤57:=by omega
  have e46:((n:Int)==46)=false:=by rw [zH1];omega
  have e45:((n:Int)==45)=false:=by rw [zH1];omega
  clear h
  go_wp2
  go_ret
  exact ⟨rfl,rfl⟩
 ·obtain rfl:b=false:=by
   rw [HR.out]
   simp
   omega
  have g97:(97:Int)≤(n:Int):=by omega
  have g48:(48:Int)≤(n:Int):=by omega
  have l122:¬ (n:Int)≤122:=by omega
  have l57:¬ (n:Int)≤57:=by omega
  have e46:((n:Int)==46)=false:=by rw [zH1];omega
  have e45:((n:Int)==45)=false:=by rw [zH1];omega
  clear h
  go_wp2
  go_ret
  exact ⟨rfl,rfl⟩
theorem qHv (l:List UInt8) (k:Nat) (hk:k<l.length):(l.take (k+1)).all Stl.isLetter=((l.take k).all Stl.isLetter&&Stl.isLetter l[k]):=by
 rw [zq hk,List.all_append]
 simp
theorem qLO (l:List UInt8) (hl:l.length≤9223372036854775806) (w:World) :
  Calls Tryz.prog 57 #[.string ⟨l.toArray⟩] w fun e w'=>e=.returned (.bool (Stl.isName l))∧w'=w:=by
 have HR:Hid (Stl.isName l=(decide (1≤l.length)&&decide (l.length≤12)&&l.all Stl.isLetter&&l != [46]&&l != [46,46])):=Hh rfl
 generalize Stl.isName l=r at HR
 go_enter Tryz.func57,Tryz.ntmps57
 go_wp2_with fail
 go_loopw [3] (fun a wr=>wr=w∧∃ k:Nat,k≤l.length∧a=.int .i64 k∧Hid ((l.take k).all Stl.isLetter=true)) (fun a _=>l.length-(intOf a).toNat)
 case atStart=>exact ⟨rfl,0,zy _,rfl,Hh (by simp)⟩
 case round =>
  obtain ⟨rfl,k,hk,rfl,HP⟩:=hrel
  by_cases hkl:k<l.length
  ·have n1:(k:Int)<(l.length:Int):=by omega
   have n2:(0:Int)≤(k:Int):=by omega
   go_wp2_with fail
   refine (qIo l[k] _).mono ?_
   rintro e w2 ⟨rfl,rfl⟩
   cases hc:Stl.isLetter l[k]
   ·have HF:=Hh (show r=false by
     have ha:l.all Stl.isLetter=false:=by
      rw [List.all_eq_false]
      exact ⟨l[k],zP _,by rw [hc];simp⟩
     rw [HR.out,ha]
     simp)
    go_wp2
    go_ret
    exact ⟨by rw [HF.out];rfl,rfl⟩
   ·have HC:=Hh hc
    clear hc
    go_wp2
    go_roundw
    case rel =>
     refine ⟨trivial,k+1,hkl,rfl,Hh ?_⟩
     rw [qHv _ _ hkl,HP.out,HC.out]
     rfl
    case measure=>simp [intOf];omega
  ·have n1:¬ (k:Int)<(l.length:Int):=by omega
   have HA:=Hh (show l.all Stl.isLetter=true by
    have:=HP.out
    rwa [zo (by omega)] at this)
   by_cases b1:1≤l.length
   ·by_cases b2:l.length≤12
    ·have c1:(1:Int)≤(l.length:Int):=by omega
     have c2:(l.length:Int)≤12:=by omega
     by_cases b3:l=[46]
     ·subst b3
      have HF:=Hh (show r=false by rw [HR.out];rfl)
      go_wp2
      go_ret
      exact ⟨by rw [HF.out];rfl,rfl⟩
     ·have HB3:=Hh b3
      have d3:(l==[46])=false:=by rw [zH1];exact b3
      clear b3
      by_cases b4:l=[46,46]
      ·subst b4
       have HF:=Hh (show r=false by rw [HR.out];rfl)
       go_wp2
       go_ret
       exact ⟨by rw [HF.out];rfl,rfl⟩
      ·have HF:=Hh (show r=true by rw [HR.out,HA.out];simp [b1,b2,HB3.out,b4])
       have d4:(l==[46,46])=false:=by rw [zH1];exact b4
       clear b4
       go_wp2
       go_ret
       exact ⟨by rw [HF.out];rfl,rfl⟩
    ·have c1:(1:Int)≤(l.length:Int):=by omega
     have c2:¬ (l.length:Int)≤12:=by omega
     have HF:=Hh (show r=false by rw [HR.out];simp [b2])
     go_wp2
     go_ret
     exact ⟨by rw [HF.out];rfl,rfl⟩
   ·have c1:¬ (1:Int)≤(l.length:Int):=by omega
    have HF:=Hh (show r=false by rw [HR.out];simp [b1])
    go_wp2
    go_ret
    exact ⟨by rw [HF.out];rfl,rfl⟩
end Go.Proofs.YthogfjmnnaoldaaGreatDoor
namespace Go.Proofs.YthogfjmnnaoldaaGreatDoor
open Go.RowKit Go.Maps Go.Sort Go.Shelf
abbrev Row (w:World) (v:Value) (l:List (List UInt8)):Prop:=w.ownsRow 0 9 1 v l.length (l.map encStr)
theorem Row.later {w w':World} {v:Value} {l:List (List UInt8)} (h:Row w v l) (hb:Below w.heap.size w w'):Row w' v l:=by
 have hlt:=World.ownsRow.lt h
 obtain ⟨h1,h2⟩:=h
 refine ⟨h1,?_⟩
 rcases h2 with h2 | ⟨g,cap,cur,rfl,h3,h4,h5⟩
 ·exact .inl h2
 ·exact .inr ⟨g,cap,cur,rfl,h3,(hb.block g (hlt g rfl).2).trans h4,h5⟩
theorem qPx:∀ (l:List (List UInt8)) (x:List UInt8) (k:Nat),k≤l.length→(∀ j (h:j<l.length),j<k→l[j]<x)→(∀ h:k<l.length,¬ l[k]<x)→Stl.ins x l=if l[k]?=some x then l else l.take k++x::l.drop k
 | [],x,k,h1,_,_=>by
  have:k=0:=by simpa using h1
  subst this
  simp [Stl.ins]
 | y::r,x,0,_,_,h3=>by
  have h:=h3 (by simp)
  simp only [List.getElem_cons_zero] at h
  unfold Stl.ins
  rw [zM1 h]
  simp
 | y::r,x,k+1,h1,h2,h3=>by
  have h:=h2 0 (by simp) (by omega)
  simp only [List.getElem_cons_zero] at h
  unfold Stl.ins
  rw [zN1 h]
  have ih:=qPx r x k (by simpa using h1) (fun j hj hk=>by
   have:=h2 (j+1) (by simp;omega) (by omega)
   simpa using this) (fun hk=>by
   have:=h3 (by simp;omega)
   simpa using this)
  rw [ih]
  simp only [List.getElem?_cons_succ]
  split<;>simp
theorem qJi:∃ i:TypeInfo,Tryz.prog.info? 9=some i∧i.zero=some (.string ByteArray.empty)∧i.size=1∧i.bytes=16:=by
 have h:(Tryz.prog.info? 9).map (fun i=>(i.zero,i.size,i.bytes))=some (some (.string ByteArray.empty),1,16):=by kernel_rfl
 cases hi:Tryz.prog.info? 9 with
 | none=>rw [hi] at h;cases h
 | some i =>
  rw [hi] at h
  simp only [zB1,zC1,Prod.mk.injEq] at h
  exact ⟨i,rfl,h.1,h.2.1,h.2.2⟩
theorem qMO {w:World} {g j:Nat} {u:Value} (h:w.cell? ((⟨g,0,none⟩:Addr).add j)=some u):w.cell? ⟨g,j,none⟩=some u:=by
 by_cases hj:j=0
 ·subst hj;exact h
 ·simpa [Addr.add,hj] using h
theorem qLx {w:World} {g k j:Nat} {u:Value} (h:w.cell? ⟨g,k+j,none⟩=some u):w.cell? ((⟨g,k,none⟩:Addr).add j)=some u:=by
 by_cases hj:j=0
 ·subst hj;exact h
 ·simpa [Addr.add,hj] using h
theorem qC8 {w w1 w2:World} {o:Obj} {r:Option Nat} (h1:w.grownBy w1 none) (h2:(w1.alloc o).grownBy w2 r) (hr:∀ b,r=some b→w.heap.size≤b):Below w.heap.size w w2:=by
 refine Below.trans (b:=w1.alloc o) ?_ ?_
 ·exact Below.alloc ⟨h1.os,h1.tape,h1.output,h1.size,fun k hk=>h1.block k hk (by simp)⟩ h1.size o
 ·exact ⟨h2.os,h2.tape,h2.output,h2.size,fun k hk=>h2.block k (zv hk (zt h1.size (by simp))) (fun e=>by have:=hr k e.symm;omega)⟩
theorem qFS {w w2 w3:World} {r:Option Nat} (h2:w2.grownBy w3 r) (hs:w.heap.size≤w2.heap.size) (hr:∀ b,r=some b→w.heap.size≤b):Below w.heap.size w2 w3 :=
 ⟨h2.os,h2.tape,h2.output,h2.size,fun k hk=>h2.block k (zv hk hs) (fun e=>by have:=hr k e.symm;omega)⟩
theorem qIU (w:World) (r:Option Nat):w.grownBy w r:=⟨rfl,rfl,rfl,zr _,fun _ _ _=>rfl⟩
theorem qFk {w:World} {base n:Nat} {e:TypeId} {v:Value} {xs:List Value} (h:w.ownsRow base e 1 v n xs):w.ownsRow 0 e 1 v n xs:=by
 obtain ⟨h1,h2⟩:=h
 refine ⟨h1,?_⟩
 rcases h2 with h2 | ⟨g,cap,cur,e,_,h3⟩
 ·exact .inl h2
 ·exact .inr ⟨g,cap,cur,e,zy _,h3⟩
theorem qKC (v:Value) (l:List (List UInt8)) (x:List UInt8) (hl:l.length≤1000000) (w:World) (h:Row w v l) :
  Calls Tryz.prog 29 #[v,.string ⟨x.toArray⟩] w fun e w'=>∃ v',e=.returned v'∧Row w' v' (Stl.ins x l)∧Below w.heap.size w w':=by
 obtain ⟨g,cap,rfl⟩ | ⟨hv,hn⟩:(∃ g cap,v=.slice (some ⟨g,0,none⟩) l.length cap)∨(v=.slice none 0 0∧l=[]):=by
  rcases h.2 with ⟨rfl,h2⟩ | ⟨g,cap,cur,rfl,_⟩
  ·exact .inr ⟨rfl,zT.1 h2⟩
  ·exact .inl ⟨g,cap,rfl⟩
 ·have HI:=Hh (qPx l x)
  generalize Stl.ins x l=il at HI
  go_enter Tryz.func29,Tryz.ntmps29
  have HR:=Hh h
  clear h
  go_wp2_with fail
  go_loopw [5] (fun a wr=>wr=w∧∃ k:Nat,k≤l.length∧a=.int .i64 k∧Hid (∀ j (h:j<l.length),j<k→l[j]<x)) (fun a _=>l.length-(intOf a).toNat)
  case atStart=>exact ⟨rfl,0,zy _,rfl,Hh (fun j _ h=>by omega)⟩
  case round =>
   obtain ⟨rfl,k,hk,rfl,HP⟩:=hrel
   by_cases hkl:k<l.length
   ·have n1:(k:Int)<(l.length:Int):=by omega
    have n2:(0:Int)≤(k:Int):=by omega
    have hc:wr.cell? ⟨g,k,none⟩=some (.string ⟨(l[k]).toArray⟩):=by
     have:=HR.out.cells (g:=g) rfl k (encStr l[k]) (by simp [hkl])
     by_cases hj:k=0
     ·subst hj;exact this
     ·simpa [Addr.add,hj] using this
    by_cases hlt:l[k]<x
    ·have HLT:=Hh hlt
     have hb:Op.bytesLess l[k] x=true:=by rw [bytesLess_eq,decide_eq_true_iff];exact hlt
     clear hlt
     go_wp2
     go_roundw
     case rel =>
      refine ⟨trivial,k+1,hkl,rfl,Hh (fun j hj hjk=>?_)⟩
      rcases zw j k with h | h
      ·exact HP.out j hj h
      ·obtain rfl:j=k:=by omega
       exact HLT.out
     case measure=>simp [intOf];omega
    ·have HI2:=HI.out k hk HP.out (fun _=>hlt)
     have hb:Op.bytesLess l[k] x=false:=by rw [bytesLess_eq,decide_eq_false_iff_not];exact hlt
     clear hlt
     by_cases he:l[k]=x
     ·have HE:=Hh (show il=l by rw [HI2,zM hkl,he];simp)
      have he2:(l[k]==x)=true:=by rw [beq_iff_eq];exact he
      clear he HI2
      go_wp2
      go_ret
      exact ⟨_,rfl,by rw [HE.out];exact HR.out,zC _ _⟩
     ·have HE:=Hh (show il=l.take k++x::l.drop k by rw [HI2,zM hkl];simp [he])
      have he2:(l[k]==x)=false:=by rw [zH1];exact he
      clear he HI2
      have hcap:l.length≤cap:=by
       rcases HR.out.2 with ⟨e,_⟩ | ⟨_,_,_,e,_,_,h5,_⟩
       ·cases e
       ·injection e with _ _ e;omega
      have hcap2:(k:Int)≤(cap:Int):=by omega
      go_upto_region 8 with fail
      obtain ⟨i0,hi,hz0,hz1,hz2⟩:=qJi
      have hcs:∀ j u,((l.take k).map encStr)[j]?=some u→wr.cell? ((⟨g,0,none⟩:Addr).add j)=some u:=fun j u hu=>HR.out.cells (g:=g) rfl j u (by
       rw [zO] at hu ⊢
       rw [List.getElem?_take] at hu
       split at hu
       ·exact hu
       ·cases hu)
      have hle:((l.take k).map encStr).length=k*1:=by simp;omega
      have HC:=Hh hcs
      have HLE:=Hh hle
      have Hi:=Hh hi
      have Hz0:=Hh hz0
      have Hz1:=Hh hz1
      have Hz2:=Hh hz2
      clear hcs hle hi hz0 hz1 hz2 hb
      go_upto_region 9 with (at_builtin;refine wpList_append_own _ rfl _ _ 22 rfl wr.heap.size 9 i0 (.string ByteArray.empty) 1 16 Tryz.underlying22 Hi.out Hz0.out Hz1.out Hz2.out rfl (by decide) (.slice none 0 0) 0 [] rfl (zG1 _ _ _ _) ⟨g,0,none⟩ k cap ((l.take k).map encStr) rfl HLE.out HC.out (fun u hu=>by obtain ⟨y,_,rfl⟩:=zf.1 hu;rfl) (by unfold maxLen;omega) (by omega) (zr _) ?_;intro v1 w1 hown1 hg1 hv1)
      have HO1:=Hh (hown1.alloc (.cells #[.string ⟨x.toArray⟩] 9))
      have HG1:=Hh hg1
      clear hown1 hg1 hv1
      go_upto_region 10 with (at_builtin;refine wpList_append_own _ rfl _ _ 22 rfl wr.heap.size 9 i0 (.string ByteArray.empty) 1 16 Tryz.underlying22 Hi.out Hz0.out Hz1.out Hz2.out rfl (by decide) v1 (0+k) _ rfl HO1.out ⟨w1.heap.size,0,none⟩ 1 1 [.string ⟨x.toArray⟩] rfl rfl (cell_one_new _ _ _) (fun u hu=>by simp at hu;subst hu;rfl) (by unfold maxLen;omega) (by omega) (zt HG1.out.size (by simp)) ?_;intro v2 w2 hown2 hg2 hv2)
      have HO2:=Hh hown2
      have HB2:=Hh (qC8 (o:=.cells #[.string ⟨x.toArray⟩] 9) HG1.out hg2 (fun b hb=>(HO1.out.lt b hb).1))
      clear hown2 hg2 hv2
      have hcs:∀ j u,((l.drop k).map encStr)[j]?=some u→w2.cell? ((⟨g,k,none⟩:Addr).add j)=some u:=fun j u hu=>by
       rw [zO,List.getElem?_drop,← zO] at hu
       have h1:=HR.out.cells (g:=g) rfl (k+j) u hu
       have h2:w2.cell? ⟨g,k+j,none⟩=some u:=by
        rw [HB2.out.cell (p:=⟨g,k+j,none⟩) ((World.ownsRow.lt HR.out) g rfl).2]
        exact qMO h1
       exact qLx h2
      have HC2:=Hh hcs
      clear hcs
      have HLE2:=Hh (show ((l.drop k).map encStr).length=(l.length-k)*1 by simp)
      go_wp2_with (at_builtin;go_loud (refine wpList_append_own _ rfl _ _ 22 rfl wr.heap.size 9 i0 (.string ByteArray.empty) 1 16 Tryz.underlying22 Hi.out Hz0.out Hz1.out Hz2.out rfl (by decide) v2 (0+k+1) _ rfl HO2.out ⟨g,k,none⟩ (l.length-k) (cap-k) ((l.drop k).map encStr) rfl HLE2.out HC2.out (fun u hu=>by obtain ⟨y,_,rfl⟩:=zf.1 hu;rfl) (by unfold maxLen;omega) (by omega) HB2.out.size ?_);intro v3 w3 hown3 hg3 hv3)
      have HO3:=Hh hown3
      have HB3:=Hh (Below.trans HB2.out (qFS hg3 HB2.out.size (fun b hb=>(HO2.out.lt b hb).1)))
      clear hown3 hg3 hv3
      go_ret
      refine ⟨v3,rfl,?_,HB3.out⟩
      have e1:(l.take k++x::l.drop k).length=0+k+1+(l.length-k):=by simp;omega
      have e2:(l.take k++x::l.drop k).map encStr=([]++(l.take k).map encStr)++[.string ⟨x.toArray⟩]++(l.drop k).map encStr:=by simp
      show w3.ownsRow 0 9 1 v3 il.length (il.map encStr)
      rw [HE.out,e1,e2]
      exact qFk HO3.out
   ·have n1:¬ (k:Int)<(l.length:Int):=by omega
    have HE:=Hh (show il=l.take k++x::l.drop k by
     rw [HI.out k hk HP.out (fun h=>absurd h hkl),List.getElem?_eq_none (by omega)]
     simp)
    have hcap:l.length≤cap:=by
     rcases HR.out.2 with ⟨e,_⟩ | ⟨_,_,_,e,_,_,h5,_⟩
     ·cases e
     ·injection e with _ _ e;omega
    have hcap2:(k:Int)≤(cap:Int):=by omega
    have n3:(k:Int)≤(l.length:Int):=by omega
    have n4:(0:Int)≤(k:Int):=by omega
    go_upto_region 8 with fail
    obtain ⟨i0,hi,hz0,hz1,hz2⟩:=qJi
    have hcs:∀ j u,((l.take k).map encStr)[j]?=some u→wr.cell? ((⟨g,0,none⟩:Addr).add j)=some u:=fun j u hu=>HR.out.cells (g:=g) rfl j u (by
     rw [zO] at hu ⊢
     rw [List.getElem?_take] at hu
     split at hu
     ·exact hu
     ·cases hu)
    have hle:((l.take k).map encStr).length=k*1:=by simp;omega
    have HC:=Hh hcs
    have HLE:=Hh hle
    have Hi:=Hh hi
    have Hz0:=Hh hz0
    have Hz1:=Hh hz1
    have Hz2:=Hh hz2
    clear hcs hle hi hz0 hz1 hz2
    go_upto_region 9 with (at_builtin;refine wpList_append_own _ rfl _ _ 22 rfl wr.heap.size 9 i0 (.string ByteArray.empty) 1 16 Tryz.underlying22 Hi.out Hz0.out Hz1.out Hz2.out rfl (by decide) (.slice none 0 0) 0 [] rfl (zG1 _ _ _ _) ⟨g,0,none⟩ k cap ((l.take k).map encStr) rfl HLE.out HC.out (fun u hu=>by obtain ⟨y,_,rfl⟩:=zf.1 hu;rfl) (by unfold maxLen;omega) (by omega) (zr _) ?_;intro v1 w1 hown1 hg1 hv1)
    have HO1:=Hh (hown1.alloc (.cells #[.string ⟨x.toArray⟩] 9))
    have HG1:=Hh hg1
    clear hown1 hg1 hv1
    go_upto_region 10 with (at_builtin;refine wpList_append_own _ rfl _ _ 22 rfl wr.heap.size 9 i0 (.string ByteArray.empty) 1 16 Tryz.underlying22 Hi.out Hz0.out Hz1.out Hz2.out rfl (by decide) v1 (0+k) _ rfl HO1.out ⟨w1.heap.size,0,none⟩ 1 1 [.string ⟨x.toArray⟩] rfl rfl (cell_one_new _ _ _) (fun u hu=>by simp at hu;subst hu;rfl) (by unfold maxLen;omega) (by omega) (zt HG1.out.size (by simp)) ?_;intro v2 w2 hown2 hg2 hv2)
    have HO2:=Hh hown2
    have HB2:=Hh (qC8 (o:=.cells #[.string ⟨x.toArray⟩] 9) HG1.out hg2 (fun b hb=>(HO1.out.lt b hb).1))
    clear hown2 hg2 hv2
    have hcs:∀ (ad:Addr) j u,((l.drop k).map encStr)[j]?=some u→w2.cell? (ad.add j)=some u:=fun ad j u hu=>by
     rw [zH (by omega)] at hu
     simp at hu
    by_cases hck:cap=k
    ·have hck2:k=cap:=hck.symm
     clear hck
     subst hck2
     have HC2:=Hh hcs
     clear hcs
     have HLE2:=Hh (show ((l.drop k).map encStr).length=(l.length-k)*1 by simp)
     go_wp2_with (at_builtin;go_loud (refine wpList_append_own _ rfl _ _ 22 rfl wr.heap.size 9 i0 (.string ByteArray.empty) 1 16 Tryz.underlying22 Hi.out Hz0.out Hz1.out Hz2.out rfl (by decide) v2 (0+k+1) _ rfl HO2.out ⟨g,0,none⟩ 0 0 [] rfl rfl (fun j u hu=>by simp at hu) (fun u hu=>by cases hu) (by unfold maxLen;omega) (by omega) HB2.out.size ?_);intro v3 w3 hown3 hg3 hv3)
     have HO3:=Hh hown3
     have HB3:=Hh (Below.trans HB2.out (qFS hg3 HB2.out.size (fun b hb=>(HO2.out.lt b hb).1)))
     clear hown3 hg3 hv3
     go_ret
     refine ⟨v3,rfl,?_,HB3.out⟩
     have e1:(l.take k++x::l.drop k).length=0+k+1+0:=by simp;omega
     have e2:(l.take k++x::l.drop k).map encStr=([]++(l.take k).map encStr)++[.string ⟨x.toArray⟩]++[]:=by rw [zH (by omega)];simp
     show w3.ownsRow 0 9 1 v3 il.length (il.map encStr)
     rw [HE.out,e1,e2]
     exact qFk HO3.out
    ·have hck2:¬ cap=k:=hck
     clear hck
     have HC2:=Hh hcs
     clear hcs
     have HLE2:=Hh (show ((l.drop k).map encStr).length=(l.length-k)*1 by simp)
     go_wp2_with (at_builtin;go_loud (refine wpList_append_own _ rfl _ _ 22 rfl wr.heap.size 9 i0 (.string ByteArray.empty) 1 16 Tryz.underlying22 Hi.out Hz0.out Hz1.out Hz2.out rfl (by decide) v2 (0+k+1) _ rfl HO2.out ⟨g,k,none⟩ (l.length-k) (cap-k) ((l.drop k).map encStr) rfl HLE2.out (HC2.out _) (fun u hu=>by obtain ⟨y,_,rfl⟩:=zf.1 hu;rfl) (by unfold maxLen;omega) (by omega) HB2.out.size ?_);intro v3 w3 hown3 hg3 hv3)
     have HO3:=Hh hown3
     have HB3:=Hh (Below.trans HB2.out (qFS hg3 HB2.out.size (fun b hb=>(HO2.out.lt b hb).1)))
     clear hown3 hg3 hv3
     go_ret
     refine ⟨v3,rfl,?_,HB3.out⟩
     have e1:(l.take k++x::l.drop k).length=0+k+1+(l.length-k):=by simp;omega
     have e2:(l.take k++x::l.drop k).map encStr=([]++(l.take k).map encStr)++[.string ⟨x.toArray⟩]++(l.drop k).map encStr:=by simp
     show w3.ownsRow 0 9 1 v3 il.length (il.map encStr)
     rw [HE.out,e1,e2]
     exact qFk HO3.out
 ·subst hv hn
  have HE:=Hh (show Stl.ins x []=[x] from rfl)
  generalize Stl.ins x []=il at HE
  obtain ⟨i0,hi,hz0,hz1,hz2⟩:=qJi
  have Hi:=Hh hi
  have Hz0:=Hh hz0
  have Hz1:=Hh hz1
  have Hz2:=Hh hz2
  clear hi hz0 hz1 hz2 h
  go_enter Tryz.func29,Tryz.ntmps29
  go_wp2_with fail
  go_loopw [5] (fun a wr=>wr=w∧a=.int .i64 0) (fun _ _=>0)
  case atStart=>exact ⟨rfl,rfl⟩
  case round =>
   obtain ⟨rfl,rfl⟩:=hrel
   go_upto_region 9 with (at_builtin;refine wpList_append_own_none rfl _ _ 22 rfl wr.heap.size 9 i0 1 Tryz.underlying22 Hi.out (.slice none 0 0) 0 [] rfl (zG1 _ _ _ _) rfl ?_)
   have HO1:=Hh ((zG1 wr wr.heap.size 9 1).alloc (.cells #[.string ⟨x.toArray⟩] 9))
   go_upto_region 10 with (at_builtin;go_loud (refine wpList_append_own _ rfl _ _ 22 rfl wr.heap.size 9 i0 (.string ByteArray.empty) 1 16 Tryz.underlying22 Hi.out Hz0.out Hz1.out Hz2.out rfl (by decide) (.slice none 0 0) 0 [] rfl HO1.out ⟨wr.heap.size,0,none⟩ 1 1 [.string ⟨x.toArray⟩] rfl rfl (cell_one_new _ _ _) (fun u hu=>by simp at hu;subst hu;rfl) (by unfold maxLen;omega) (by omega) (by simp) ?_);intro v2 w2 hown2 hg2 hv2)
   have HO2:=Hh hown2
   have HB2:=Hh (qC8 (o:=.cells #[.string ⟨x.toArray⟩] 9) (qIU wr none) hg2 (fun b hb=>by cases hb))
   clear hown2 hg2 hv2
   go_wp2_with (at_builtin;go_loud (refine wpList_append_own_none rfl _ _ 22 rfl wr.heap.size 9 i0 1 Tryz.underlying22 Hi.out v2 (0+1) _ rfl HO2.out rfl ?_))
   go_ret
   refine ⟨v2,rfl,?_,HB2.out⟩
   show w2.ownsRow 0 9 1 v2 il.length (il.map encStr)
   rw [HE.out]
   exact qFk HO2.out
end Go.Proofs.YthogfjmnnaoldaaGreatDoor
namespace Go.Proofs.YthogfjmnnaoldaaGreatDoor
open Go.RowKit Go.Sort Go.Shelf Stl
def qKw (l:List (List UInt8)) (m:Nat):Bool:=decide (m<l.length)||l.any fun x=>decide (250<x.length)
def qLo (l:List (List UInt8)) (m:Nat):Int:=if qKw l m then 1 else 0
theorem qHp (v:Value) (l:List (List UInt8)) (m:Nat) (hm:m≤1000000) (hl:l.length≤9223372036854775806) (w:World) (hs:Strs w v l) :
  Calls Tryz.prog 5 #[v,.int .i64 m] w fun e w'=>e=.returned (.int .i64 (qLo l m))∧w'=w:=by
 obtain ⟨A,c,rfl,h1⟩:=id hs
 clear h1
 go_enter Tryz.func5,Tryz.ntmps5
 have HS:=Hh hs
 clear hs
 have HE:Hid (qLo l m=if (decide (m<l.length)||l.any fun x=>decide (250<x.length))=true then 1 else 0):=Hh rfl
 generalize qLo l m=r at HE
 by_cases hb:m<l.length
 ·have i0:(m:Int)<(l.length:Int):=by omega
  have HF:=Hh (show r=1 by rw [HE.out];exact zN1 (by simp [hb]))
  go_wp2
  go_ret
  exact ⟨by first | rfl | (rw [HF.out];rfl),rfl⟩
 have i0:(l.length:Int)≤(m:Int):=by omega
 go_wp2_with fail
 go_loopw [5] (fun a wr=>wr=w∧∃ k:Nat,k≤l.length∧a=.int .i64 k∧Hid ((l.take k).any (fun x=>decide (250<x.length))=false)) (fun a _=>l.length-(intOf a).toNat)
 case atStart=>exact ⟨rfl,0,zy _,rfl,Hh rfl⟩
 case round =>
  obtain ⟨rfl,k,hk,rfl,HP⟩:=hrel
  by_cases hkl:k<l.length
  ·obtain ⟨b,off,rfl,hb,hc⟩:=HS.out.cellAt hkl
   have i1:(k:Int)<(l.length:Int):=by omega
   have i2:(0:Int)≤(k:Int):=by omega
   by_cases hx:250<(l[k]).length
   ·have HF:=Hh (show r=1 by
     rw [HE.out]
     refine zN1 ?_
     rw [Bool.or_eq_true]
     exact .inr (List.any_eq_true.2 ⟨l[k],zP _,by simpa using hx⟩))
    have i3:(250:Int)<((l[k]).length:Int):=by omega
    clear hx
    go_wp2
    go_ret
    exact ⟨by first | rfl | (rw [HF.out];rfl),rfl⟩
   ·have HX:=Hh hx
    have i3:((l[k]).length:Int)≤250:=by omega
    clear hx
    go_wp2
    go_roundw
    case rel =>
     refine ⟨trivial,k+1,hkl,rfl,Hh ?_⟩
     rw [zq hkl,List.any_append,HP.out]
     simpa using HX.out
    case measure=>simp [intOf];omega
  ·have i1:¬ (k:Int)<(l.length:Int):=by omega
   have HF:=Hh (show r=0 by
    have h:=HP.out
    rw [zo (by omega)] at h
    rw [HE.out,h]
    simp [hb])
   go_wp2
   go_ret
   exact ⟨by first | rfl | (rw [HF.out];rfl),rfl⟩
def qQN (s:List UInt8) (by_:UInt8) (w:World) (e:Ending) (w':World):Prop :=
 ∃ (A:Option Addr) (cp:Nat) (l:List (List UInt8)),e=.returned (.slice A l.length cp)∧1≤l.length∧l.length≤s.length+1∧l[0]?=some (s.takeWhile fun c=>c != by_)∧w'.ownsRow w.heap.size 9 1 (.slice A l.length cp) l.length (l.map encStr)∧Below w.heap.size w w'
structure qQ7 (w wr:World) (s:List UInt8) (by_:UInt8) (i from_:Nat) (v:Value) (acc:List (List UInt8)):Prop where
 below:Below w.heap.size w wr
 row:wr.ownsRow w.heap.size 9 1 v acc.length (acc.map encStr)
 few:acc.length≤i
 low:from_≤i
 first:(acc=[]∧from_=0∧∀ c∈s.take i,(c != by_)=true)∨acc[0]?=some (s.takeWhile fun c=>c != by_)
theorem qDA {p:UInt8→Bool}:∀ {l:List UInt8},(∀ c∈l,p c=true)→l.takeWhile p=l
 | [],_=>rfl
 | x::r,h=>by
  rw [List.takeWhile_cons,zN1 (h x List.mem_cons_self),qDA (fun c hc=>h c (List.mem_cons_of_mem _ hc))]
theorem qHW {p:UInt8→Bool} {l:List UInt8} {i:Nat} (hi:i<l.length) (h:∀ c∈l.take i,p c=true) (hn:p l[i]=false):l.takeWhile p=l.take i:=by
 conv=>lhs;rw [← List.take_append_drop i l]
 rw [List.takeWhile_append_of_pos h,zG hi,List.takeWhile_cons,zM1 (by rw [hn];decide),List.append_nil]
theorem qOC (s:List UInt8) (by_:UInt8) (hl:s.length≤1000000) (w:World) :
  Calls Tryz.prog 7 #[.string ⟨s.toArray⟩,.int .u8 by_.toNat] w (qQN s by_ w):=by
 obtain ⟨i0,hi,hz0,hz1,hz2⟩:=qFr
 have Hi:=Hh hi
 have Hz0:=Hh hz0
 have Hz1:=Hh hz1
 have Hz2:=Hh hz2
 clear hi hz0 hz1 hz2
 go_enter Tryz.func7,Tryz.ntmps7
 go_upto_region 4 with fail
 go_loopw [5,6,7] (fun v f a wr=>∃ (i from_:Nat) (acc:List (List UInt8)),a=.int .i64 i∧f=.int .i64 from_∧i≤s.length∧Hid (qQ7 w wr s by_ i from_ v acc)) (fun _ _ a _=>s.length-(intOf a).toNat)
 case atStart=>exact ⟨0,0,[],rfl,rfl,zy _,Hh ⟨zC _ _,zG1 _ _ _ _,zr _,zr _,.inl ⟨rfl,rfl,by simp⟩⟩⟩
 case round =>
  obtain ⟨i,from_,acc,rfl,rfl,hi,HS⟩:=hrel
  have hlow:=HS.out.low
  have hfew:=HS.out.few
  by_cases hil:i<s.length
  ·have i1:(i:Int)<(s.length:Int):=by omega
   have i2:(0:Int)≤(i:Int):=by omega
   have HSE:=Hh (show s.take (i+1)=s.take i++[s[i]] from zq hil)
   cases hc:s[i]==by_ with
   | false =>
    have hb:¬ (((⟨s.toArray⟩:ByteArray)[i]'hil).toNat:Int)=(by_.toNat:Int):=by
     intro e
     have e:(s[i].toNat:Int)=(by_.toNat:Int):=e
     have:s[i]=by_:=UInt8.toNat_inj.1 (by omega)
     rw [this] at hc
     simp at hc
    have HN:=Hh (show qQ7 w wr s by_ (i+1) from_ u5 acc from ⟨HS.out.below,HS.out.row,by omega,by omega,by
     rcases HS.out.first with ⟨h1,h2,h3⟩ | h1
     ·refine .inl ⟨h1,h2,fun c hcm=>?_⟩
      rw [HSE.out] at hcm
      rcases zZ.1 hcm with h | h
      ·exact h3 c h
      ·rw [zi.1 h];simp [bne,hc]
     ·exact .inr h1⟩)
    clear hc
    go_wp2
    go_roundw
    case rel=>exact ⟨i+1,from_,acc,by go_num,rfl,hil,HN⟩
    case measure=>simp [intOf];omega
   | true =>
    have hb:(((⟨s.toArray⟩:ByteArray)[i]'hil).toNat:Int)=(by_.toNat:Int):=by show (s[i].toNat:Int)=_;rw [eq_of_beq hc]
    have HFS:=Hh (show acc=[]→from_=0∧(s.take i).drop from_=s.takeWhile (fun c=>c != by_) from fun ha=>by
     rcases HS.out.first with ⟨_,h2,h3⟩ | h1
     ·rw [h2,List.drop_zero,qHW hil h3 (by simp [bne,hc])]
      exact ⟨rfl,rfl⟩
     ·rw [ha] at h1;simp at h1)
    clear hc
    have i3:(0:Int)≤(from_:Int):=by omega
    have i4:(from_:Int)≤(i:Int):=by omega
    have i5:(i:Int)≤(s.length:Int):=by omega
    go_upto_region 7 with fail
    have HO2:=Hh (HS.out.row.alloc (.cells #[.string ((⟨s.toArray⟩:ByteArray).extract from_ i)] 9))
    have HB2:=Hh (HS.out.below.alloc HS.out.below.size (.cells #[.string ((⟨s.toArray⟩:ByteArray).extract from_ i)] 9))
    go_wp2_with (at_builtin;refine Stl.wpList_app _ rfl _ _ 22 rfl w.heap.size 9 i0 (.string ByteArray.empty) 1 16 Tryz.underlying22 Hi.out Hz0.out Hz1.out Hz2.out rfl (by decide) u5 acc.length _ rfl HO2.out (some ⟨wr.heap.size,0,none⟩) 1 1 [.string ((⟨s.toArray⟩:ByteArray).extract from_ i)] rfl rfl (fun h=>by cases h) (qAw _ _ _) (by simp [Value.oneCell']) (by unfold maxLen;omega) (by omega) (zt HS.out.below.size (by simp)) ?_;intro A7 c7 w7 hown7 hgr7 hat7;have HO3:=Hh hown7;have HB3:=Hh (HB2.out.grown hgr7 HB2.out.size (fun k hk=>(HO2.out.lt k hk).1));clear hown7 hgr7 hat7)
    have HN:=Hh (show qQ7 w w7 s by_ (i+1) (i+1) (.slice A7 (acc.length+1) c7) (acc++[(s.take i).drop from_]) from ⟨HB3.out,by have:=HO3.out;rw [qH2] at this;simpa [encStr] using this,by simp;omega,zr _,.inr (by
     cases acc with
     | nil=>simpa using (HFS.out rfl).2
     | cons x r =>
      rcases HS.out.first with ⟨h1,_⟩ | h1
      ·cases h1
      ·simpa using h1)⟩)
    go_roundw
    case rel=>exact ⟨i+1,i+1,_,by go_num,by go_num,hil,HN⟩
    case measure=>simp [intOf];omega
  ·have i1:¬ (i:Int)<(s.length:Int):=by omega
   have i3:(0:Int)≤(from_:Int):=by omega
   have i4:(from_:Int)≤(s.length:Int):=by omega
   obtain rfl:i=s.length:=by omega
   have HFS:=Hh (show acc=[]→s.drop from_=s.takeWhile (fun c=>c != by_) from fun ha=>by
    rcases HS.out.first with ⟨_,h2,h3⟩ | h1
    ·rw [zn] at h3
     rw [h2,List.drop_zero,qDA h3]
    ·rw [ha] at h1;simp at h1)
   have HO2:=Hh (HS.out.row.alloc (.cells #[.string ((⟨s.toArray⟩:ByteArray).extract from_ s.length)] 9))
   have HB2:=Hh (HS.out.below.alloc HS.out.below.size (.cells #[.string ((⟨s.toArray⟩:ByteArray).extract from_ s.length)] 9))
   go_wp2_with (at_builtin;refine Stl.wpList_app _ rfl _ _ 22 rfl w.heap.size 9 i0 (.string ByteArray.empty) 1 16 Tryz.underlying22 Hi.out Hz0.out Hz1.out Hz2.out rfl (by decide) u5 acc.length _ rfl HO2.out (some ⟨wr.heap.size,0,none⟩) 1 1 [.string ((⟨s.toArray⟩:ByteArray).extract from_ s.length)] rfl rfl (fun h=>by cases h) (qAw _ _ _) (by simp [Value.oneCell']) (by unfold maxLen;omega) (by omega) (zt HS.out.below.size (by simp)) ?_;intro A7 c7 w7 hown7 hgr7 hat7;have HO3:=Hh hown7;have HB3:=Hh (HB2.out.grown hgr7 HB2.out.size (fun k hk=>(HO2.out.lt k hk).1));clear hown7 hgr7 hat7)
   go_ret
   refine ⟨A7,c7,acc++[s.drop from_],by simp,by simp,by simp;omega,?_,?_,HB3.out⟩
   ·cases acc with
    | nil=>simpa using HFS.out rfl
    | cons x r =>
     rcases HS.out.first with ⟨h1,_⟩ | h1
     ·cases h1
     ·simpa using h1
   ·have:=HO3.out
    rw [extract_drop] at this
    simpa [encStr] using this
end Go.Proofs.YthogfjmnnaoldaaGreatDoor
