/- Lemmas. -/
import Derived.Lib.SlicesCompact
import Derived.Sort.KeysCollected
import Derived.Test.YtbmkaekimccdgaaGreatDoorBm03
set_option maxHeartbeats 16000000
set_option maxRecDepth 1000000
set_option linter.all false
namespace Stl
theorem oU {c:Prop}[Decidable c]{a b:Nat}(ha:a≠0)(h:(if c then a else b)=0):¬ c∧b=0:=by
 split at h
 ·exact absurd h ha
 ·exact⟨by assumption,h⟩
theorem qHq {k d:qB}{e:Bool}{nms:List qB}(h:ownErrP k d e nms=0):d.length≤2000∧nms.all isName=true∧gL nms=true:=by
 unfold ownErrP at h;obtain⟨_,h⟩:=oU (by decide) h;obtain⟨_,h⟩:=oU (by decide) h;obtain⟨h1,h⟩:=oU (by decide) h;obtain⟨_,h⟩:=oU (by decide) h;obtain⟨h2,h⟩:=oU (by decide) h;obtain⟨h3,_⟩:=oU (by decide) h;exact⟨by omega,by simpa using h2,by simpa using h3⟩
theorem qJt {k d:qB}{e:Bool}{ks:List (qB×Nd)}(h:ownErr (.mk k d e ks)=0):∀ p∈ks,isName p.1=true:=fun p hp =>
 List.all_eq_true.1 (qHq h).2.1 p.1 (zb.2 ⟨p,hp,rfl⟩)
theorem own_data {n:Nd}(h:ownErr n=0):n.data.length≤2000:=(qHq h).1
theorem vT {s:qB}(h:isName s=true):s.length≤12:=by
 unfold isName at h;simp only[zC,decide_eq_true_eq] at h;omega
mutual
theorem qHP:∀ (n:Nd) (path:qB) (deep c:Nat),(chk ownErr n deep c).1=0→path.length≤13*deep →
  (chk ownErr n deep c).2=c+(flat n path deep).length∧∀ x∈flat n path deep,ownErr x.n=0∧x.path.length≤104
 | .mk k d e ks,path,deep,c,h,hp=>by
  rw[chk] at h ⊢;split at h
  ·cases h
  ·rename_i h1
   rw[zL1 h1];split at h
   ·cases h
   ·rename_i h2
    rw[zL1 h2];split at h
    ·rename_i h3
     rw[zM1 h3];obtain⟨k1,k2⟩:=qET ks path (deep+1) (c+1) h (by omega) (qJt h3);simp only[flat,zQ,zY];refine⟨by omega,?_⟩;rintro x (rfl | hx)
     ·exact⟨h3,by simp only;omega⟩
     ·exact k2 x hx
    ·rename_i h3
     exact absurd h h3
theorem qET:∀ (l:List (qB×Nd)) (path:qB) (deep c:Nat),(chkL ownErr l deep c).1=0→path.length+13≤13*deep→(∀ p∈l,isName p.1=true) →
  (chkL ownErr l deep c).2=c+(flatL l path deep).length∧∀ x∈flatL l path deep,ownErr x.n=0∧x.path.length≤104
 | [],path,deep,c,_,_,_=>by simp[chkL,flatL]
 | (nm,x)::r,path,deep,c,h,hp,hn=>by
  rw[chkL] at h ⊢;split at h
  ·rename_i h1
   rw[zM1 h1];have hnm:=vT (hn (nm,x) (by simp));simp only at hnm;obtain⟨k1,k2⟩:=qHP x (path++47::nm) deep c h1 (by simp;omega);obtain⟨k3,k4⟩:=qET r path deep _ h hp (fun p hp=>hn p (by simp[hp]));simp only[flatL,zP,zX];refine⟨by omega,?_⟩;rintro y (hy | hy)
   ·exact k2 y hy
   ·exact k4 y hy
  ·rename_i h1
   exact absurd h h1
end
theorem items_well {n:Nd}(h:treeErr n=0):(flat n [] 0).length≤200∧∀ x∈flat n [] 0,ownErr x.n=0∧x.path.length≤104:=by
 obtain⟨k1,k2⟩:=qHP n [] 0 0 h (by simp);have:=chk_two_le ownErr n 0 0 h;exact⟨by omega,k2⟩
theorem flatL_append:∀ (a b:List (qB×Nd)) (path:qB) (deep:Nat),flatL (a++b) path deep=flatL a path deep++flatL b path deep
 | [],b,path,deep=>rfl
 | (nm,x)::r,b,path,deep=>by simp[flatL,flatL_append r b path deep]
theorem flat_head (n:Nd)(path:qB)(deep:Nat):(⟨path,deep,n⟩:It)∈flat n path deep:=by
 cases n
 simp[flat]
theorem found_length (x:List UInt8)(ns:List (List UInt8)):(found x ns).length≤x.length:=by
 have h1:=qBh ((dP x).filter fun w=>isName w&&ns.contains w) [];have h2:=zS (fun w=>isName w&&ns.contains w) (dP x);have h3:=mentsAt_length 0 x;have h4:(dP x).length=(mentsAt 0 x).length:=by rw[← mentsAt_words 0 x,zT]
 rw[List.length_nil,zv] at h1;exact zq h1 (zq h2 (by omega))
end Stl
namespace Stl
open Go Go.Lib
theorem qB6 (zs:List qB)(hz:zs.Pairwise (·≤·)):∀ m,m≤zs.length →
  Rise (compactUpTo zs.toArray m)∧(∀ y,y∈compactUpTo zs.toArray m↔∃ j,j<m∧zs.toArray[j]! = y)∧(∀ y∈compactUpTo zs.toArray m,y≤zs.toArray[m-1]!)
 | 0,_=>⟨List.Pairwise.nil,fun y=>by simp[compactUpTo],fun y hy=>by simp[compactUpTo] at hy⟩
 | m+1,hm=>by
  obtain⟨h1,h2,h3⟩:=qB6 zs hz m (by omega);have hle:0<m→zs.toArray[m-1]! ≤ zs.toArray[m]! := fun h0=>by
   have:=List.pairwise_iff_getElem.1 hz (m-1) m (by omega) (by omega) (by omega);simpa[getElem!_pos,show m-1<zs.length by omega,show m<zs.length by omega] using this
  rw[compactUpTo_succ];by_cases hk:keeps zs.toArray m=true
  ·rw[zM1 hk];have hlt:∀ y∈compactUpTo zs.toArray m,y<zs.toArray[m]! := fun y hy=>by
    have hy2:=h3 y hy;have h0:0<m:=by
     obtain⟨j,hj,_⟩:=(h2 y).1 hy;omega
    have hne:zs.toArray[m]! ≠ zs.toArray[m-1]! := by
     intro e;rw[keeps_neg h0 e] at hk
     cases hk
    have hl:=hle h0
    rcases blt_tri zs.toArray[m-1]! zs.toArray[m]! with h | h | h
    ·exact List.lt_of_le_of_lt hy2 h
    ·exact absurd h.symm hne
    ·exact absurd h (List.not_lt.2 hl)
   refine⟨List.pairwise_append.2 ⟨h1,by simp,fun a ha b hb=>?_⟩,fun y=>?_,fun y hy=>?_⟩
   ·rw[zg] at hb;subst hb;exact hlt a ha
   ·rw[zX,zg,h2];constructor
    ·rintro (⟨j,hj,e⟩ | rfl)
     ·exact⟨j,by omega,e⟩
     ·exact⟨m,by omega,rfl⟩
    ·rintro ⟨j,hj,e⟩
     rcases zu j m with h | h
     ·exact .inl ⟨j,h,e⟩
     ·obtain rfl:j=m:=by omega
      exact .inr e.symm
   ·rw[Nat.add_sub_cancel]
    rcases zX.1 hy with h | h
    ·exact List.le_of_lt (hlt y h)
    ·rw[zg] at h;subst h;exact List.le_refl _
  ·rw[zL1 hk,List.append_nil];have h0:0<m:=by
    rcases Nat.eq_zero_or_pos m with h | h
    ·subst h;exact absurd (keeps_lt_one zs.toArray 0 (by omega)) hk
    ·exact h
   have he:zs.toArray[m]! = zs.toArray[m-1]! := by
    by_cases e:zs.toArray[m]! = zs.toArray[m-1]!
    ·exact e
    ·exact absurd (keeps_pos e) hk
   refine⟨h1,fun y=>?_,fun y hy=>?_⟩
   ·rw[h2];constructor
    ·rintro ⟨j,hj,e⟩;exact⟨j,by omega,e⟩
    ·rintro ⟨j,hj,e⟩
     rcases zu j m with h | h
     ·exact⟨j,h,e⟩
     ·obtain rfl:j=m:=by omega
      exact⟨j-1,by omega,by rw[← he];exact e⟩
   ·rw[Nat.add_sub_cancel,he];exact h3 y hy
theorem sort_compact (xs:List qB):compact (xs.mergeSort leB)=insAll xs []:=by
 have tr:∀ a b c:List UInt8,leB a b=true→leB b c=true→leB a c=true:=fun a b c h1 h2=>by simp only[leB,decide_eq_true_eq] at *;exact List.le_trans h1 h2
 have tot:∀ a b:List UInt8,(leB a b||leB b a)=true:=fun a b=>by simp only[leB,Bool.or_eq_true,decide_eq_true_eq];exact List.le_total a b
 have hs:(xs.mergeSort leB).Pairwise (·≤·):=(List.pairwise_mergeSort tr tot xs).imp (fun h=>by simpa using h);obtain⟨h1,h2,_⟩:=qB6 _ hs _ (zo _);refine qK6 h1 fun y=>?_
 show y∈compactUpTo _ _↔_;rw[h2,← (List.mergeSort_perm xs leB).mem_iff,List.mem_iff_getElem];generalize xs.mergeSort leB=zs;have hg:∀ (j:Nat) (hj:j<zs.length),zs.toArray[j]! = zs[j]:=fun j hj=>by simp[hj]
 constructor
 ·rintro ⟨j,hj,e⟩;exact⟨j,hj,by rw[← hg j hj];exact e⟩
 ·rintro ⟨j,hj,e⟩;exact⟨j,hj,by rw[hg j hj];exact e⟩
end Stl
namespace Stl
open Go Go.RowKit
section
variable {w w0:World}{c c2:Nat→Col}{S:Col→Bool}{b B:Nat}{v0 v1 v2 v3:Value}{t:TypeId}{f:Nat×Nat}
def four (w:World)(b:Nat)(a0 a1 a2 a3:Value):World:=(((w.setCell ⟨b,0,none⟩ a0).setCell ⟨b,1,none⟩ a1).setCell ⟨b,2,none⟩ a2).setCell ⟨b,3,none⟩ a3
theorem uY (h:w.heap[b]?=some (.cells #[v0,v1,v2,v3] t f))(a0 a1 a2 a3:Value):(four w b a0 a1 a2 a3).heap[b]?=some (.cells #[a0,a1,a2,a3] t f):=qH (qH (qH (qH h 0 a0) 1 a1) 2 a2) 3 a3
theorem qHj (e:Ext w0 w c c2 S)(hb:b<w0.heap.size→S (c b)=true)(a0 a1 a2 a3:Value):Ext w0 (four w b a0 a1 a2 a3) c c2 S:=(((e.setCell (a:=⟨b,0,none⟩) hb a0).setCell (a:=⟨b,1,none⟩) hb a1).setCell (a:=⟨b,2,none⟩) hb a2).setCell (a:=⟨b,3,none⟩) hb a3
theorem qDG (e:Below B w0 w)(hb:B≤b)(a0 a1 a2 a3:Value):Below B w0 (four w b a0 a1 a2 a3):=(((e.setCell (p:=⟨b,0,none⟩) hb a0).setCell (p:=⟨b,1,none⟩) hb a1).setCell (p:=⟨b,2,none⟩) hb a2).setCell (p:=⟨b,3,none⟩) hb a3
theorem mS (h:w.heap[b]?=some (.cells #[v0,v1,v2,v3] t f))(e:Ext w0 w c c2 S)(hb:b<w0.heap.size→S (c b)=true)(a0 a1 a2 a3:Value) :
  ∃ w',Hg (((((w.setCell ⟨b,0,none⟩ a0).setCell ⟨b,1,none⟩ a1).setCell ⟨b,2,none⟩ a2).setCell ⟨b,3,none⟩ a3)=w')∧Hg (w'.heap[b]?=some (.cells #[a0,a1,a2,a3] t f))∧Hg (Ext w0 w' c c2 S):=⟨_,Hh rfl,Hh (uY h a0 a1 a2 a3),Hh (qHj e hb a0 a1 a2 a3)⟩
theorem wM (h:w.heap[b]?=some (.cells #[v0,v1,v2,v3] t f))(e:Ext w0 w c c2 S)(hb:b<w0.heap.size→S (c b)=true)(a0 a1 a2 a3:Value) :
  ∃ w',Hg (((((w.setCell ⟨b,0,none⟩ a0).setCell ⟨b,1,none⟩ a1).setCell ⟨b,2,none⟩ a2).setCell ⟨b,3,none⟩ a3).drew=w')∧Hg (w'.heap[b]?=some (.cells #[a0,a1,a2,a3] t f))∧Hg (Ext w0 w' c c2 S):=⟨_,Hh rfl,Hh (uY h a0 a1 a2 a3),Hh (qHj e hb a0 a1 a2 a3).drew⟩
theorem nJ (h:w.heap[b]?=some (.cells #[v0,v1,v2,v3] t f))(e:Below B w0 w)(hb:B≤b)(a0 a1 a2 a3:Value) :
  ∃ w',Hg (((((w.setCell ⟨b,0,none⟩ a0).setCell ⟨b,1,none⟩ a1).setCell ⟨b,2,none⟩ a2).setCell ⟨b,3,none⟩ a3)=w')∧Hg (w'.heap[b]?=some (.cells #[a0,a1,a2,a3] t f))∧Hg (Below B w0 w'):=⟨_,Hh rfl,Hh (uY h a0 a1 a2 a3),Hh (qDG e hb a0 a1 a2 a3)⟩
theorem qGI (h:w.heap[b]?=some (.cells #[v0,v1,v2,v3] t f))(e:Below B w0 w)(hb:B≤b)(a0 a1 a2 a3:Value) :
  ∃ w',Hg (((((w.setCell ⟨b,0,none⟩ a0).setCell ⟨b,1,none⟩ a1).setCell ⟨b,2,none⟩ a2).setCell ⟨b,3,none⟩ a3).drew=w')∧Hg (w'.heap[b]?=some (.cells #[a0,a1,a2,a3] t f))∧Hg (Below B w0 w'):=⟨_,Hh rfl,Hh (uY h a0 a1 a2 a3),Hh (qDG e hb a0 a1 a2 a3).drew⟩
end
end Stl
namespace Stl
theorem qBa {t:Tab}{n m:Nat}(h:t.lesser n=some m):m<n∧∃ s,t.read n=.ok s∧t.read m=.ok s∧(t.at_ m).map (·.exec)=(t.at_ n).map (·.exec):=by
 unfold Tab.lesser at h
 cases hr:t.read n with
 | error e=>rw[hr] at h;cases h
 | ok s =>
  rw[hr] at h;simp only at h;have h1:=List.find?_some h;have h2:=zf h;rw[List.mem_range] at h2;refine⟨h2,s,rfl,?_⟩
  cases hm:t.read m with
  | error e=>rw[hm] at h1;simp at h1
  | ok r =>
   rw[hm] at h1;simp only[zC,beq_iff_eq] at h1;exact⟨by rw[h1.1],h1.2⟩
theorem qCo:∀ {t:Tab} {l:List Ent} {k:Nat} {s:qB} {was n:Nat},stepOf t l=some (k,s,was,n)→∃ e∈l,e.k=k∧(s,was)∈e.f∧t.lesser was=some n
 | t,[],_,_,_,_,h=>by cases h
 | t,e::r,k,s,was,n,h=>by
  unfold stepOf at h;split at h
  ·rename_i x hx
   injection h with h
   subst h;obtain⟨p,hp,hq⟩:=List.exists_of_findSome?_eq_some hx
   cases hl:t.lesser p.2 with
   | none=>rw[hl] at hq;cases hq
   | some m =>
    rw[hl] at hq;injection hq with hq
    injection hq with e1 hq
    injection hq with e2 hq
    injection hq with e3 e4
    exact⟨e,by simp,e1,by rw[← e2,← e3];exact hp,by rw[← e3,hl,e4]⟩
  ·obtain⟨a,ha,hb⟩:=qCo h;exact⟨a,by simp[ha],hb⟩
theorem qGv (f:List (qB×Nat))(s:qB)(n:Nat):(qZ f s n).map (·.1)=f.map (·.1):=by
 unfold qZ;rw[zW];apply List.map_congr_left;intro p _;simp only[Function.comp];split<;>rfl
theorem kJ:∀ (f:List (qB×Nat)) (s:qB) (n:Nat) (p:qB),jV (qZ f s n) p=if p=s then (jV f p).map (fun _=>n) else jV f p
 | [],s,n,p=>by simp[qZ,jV]
 | (a,m)::r,s,n,p=>by
  have ih:=kJ r s n p;have e:qZ ((a,m)::r) s n=(if a=s then (a,n) else (a,m))::qZ r s n:=rfl;rw[e];by_cases h1:a=s
  ·rw[zM1 h1,kE,kE,ih];by_cases h2:p=s
   ·rw[zM1 h2,zM1 h2,zM1 (h1.trans h2.symm),zM1 (h1.trans h2.symm)];rfl
   ·rw[zL1 h2,zL1 (fun e=>h2 (e.symm.trans h1)),zL1 h2,zL1 (fun e=>h2 (e.symm.trans h1))]
  ·rw[zL1 h1,kE,kE,ih];by_cases h2:a=p
   ·rw[zM1 h2,zM1 h2,zL1 (fun e=>h1 (h2.trans e))]
   ·rw[zL1 h2,zL1 h2]
theorem qAK:∀ (f:List (qB×Nat)) (s:qB) (n:Nat),s∉f.map (·.1)→qZ f s n=f
 | [],_,_,_=>rfl
 | (a,m)::r,s,n,h=>by
  simp only[zV,zY,not_or] at h;have e:qZ ((a,m)::r) s n=(if a=s then (a,n) else (a,m))::qZ r s n:=rfl;rw[e,zL1 (Ne.symm h.1),qAK r s n h.2]
theorem qBk:∀ (f:List (qB×Nat)) (s:qB) (was n m:Nat),(f.map (·.1)).Nodup→(s,was)∈f →
  ((qZ f s n).map (·.2)).count m+(if m=was then 1 else 0)=(f.map (·.2)).count m+(if m=n then 1 else 0)
 | [],_,_,_,_,_,h=>by cases h
 | (a,b)::r,s,was,n,m,hn,h=>by
  simp only[zV,List.nodup_cons] at hn;have e:qZ ((a,b)::r) s n=(if a=s then (a,n) else (a,b))::qZ r s n:=rfl;rw[e]
  rcases zY.1 h with e2 | h
  ·injection e2 with e3 e4
   subst e3;subst e4;rw[zM1 rfl,qAK r s n hn.1];simp only[zV,List.count_cons,beq_iff_eq];have q1:(if m=was then 1 else 0)=(if was=m then 1 else 0):=by simp only[eq_comm]
   have q2:(if m=n then 1 else 0)=(if n=m then 1 else 0):=by simp only[eq_comm]
   omega
  ·have hne:a≠s:=fun e=>hn.1 (by rw[e];exact ze (f:=(·.1)) h)
   rw[zL1 hne];have ih:=qBk r s was n m hn.2 h;simp only[zV,List.count_cons];omega
theorem qCU:∀ (f:List (qB×Nat)) (s:qB) (was n:Nat),(f.map (·.1)).Nodup→(s,was)∈f→((qZ f s n).map (·.2)).sum+was=(f.map (·.2)).sum+n
 | [],_,_,_,_,h=>by cases h
 | (a,b)::r,s,was,n,hn,h=>by
  simp only[zV,List.nodup_cons] at hn;have e:qZ ((a,b)::r) s n=(if a=s then (a,n) else (a,b))::qZ r s n:=rfl;rw[e]
  rcases zY.1 h with e2 | h
  ·injection e2 with e3 e4
   subst e3;subst e4;rw[zM1 rfl,qAK r s n hn.1];simp only[zV,List.sum_cons];omega
  ·have hne:a≠s:=fun e=>hn.1 (by rw[e];exact ze (f:=(·.1)) h)
   rw[zL1 hne];have ih:=qCU r s was n hn.2 h;simp only[zV,List.sum_cons];omega
def jZ (l:List Ent)(k:Nat)(s:qB)(n:Nat):List Ent:=l.map fun e=>if e.k=k then { e with f:=qZ e.f s n } else e
theorem qC9 (l:List Ent)(k:Nat)(s:qB)(n:Nat)(h:∀ e∈l,e.k≠k):jZ l k s n=l:=by
 unfold jZ
 conv=>rhs;rw[← List.map_id l]
 apply List.map_congr_left;intro e he;rw[zL1 (h e he)];rfl
theorem qGZ (l:List Ent)(k:Nat)(s:qB)(n:Nat):(jZ l k s n).map (·.k)=l.map (·.k):=by
 unfold jZ;rw[zW];apply List.map_congr_left;intro e _;simp only[Function.comp];split<;>rfl
theorem qB3:∀ (l:List Ent) (s:qB) (was n m:Nat) (e:Ent),l.Pairwise (fun a b=>a.k<b.k)→e∈l→(e.f.map (·.1)).Nodup→(s,was)∈e.f →
  (nums (jZ l e.k s n)).count m+(if m=was then 1 else 0)=(nums l).count m+(if m=n then 1 else 0)
 | [],_,_,_,_,_,_,h,_,_=>by cases h
 | x::r,s,was,n,m,e,hk,he,hn,hf=>by
  obtain⟨p1,p2⟩:=zi.1 hk;have e0:jZ (x::r) e.k s n=(if x.k=e.k then { x with f:=qZ x.f s n } else x)::jZ r e.k s n:=rfl;have e1:∀ (a:Ent) (b:List Ent),nums (a::b)=a.f.map (·.2)++nums b:=fun a b=>by simp[nums]
  rw[e0,e1,e1,List.count_append,List.count_append]
  rcases zY.1 he with rfl | he
  ·rw[zM1 rfl,qC9 r e.k s n (fun y hy=>Nat.ne_of_gt (p1 y hy))];have:=qBk e.f s was n m hn hf;show ((qZ e.f s n).map (·.2)).count m+_+_=_;omega
  ·have hne:x.k≠e.k:=Nat.ne_of_lt (p1 e he);rw[zL1 hne];have ih:=qB3 r s was n m e p2 he hn hf;omega
theorem qDx:∀ (l:List Ent) (s:qB) (was n:Nat) (e:Ent),l.Pairwise (fun a b=>a.k<b.k)→e∈l→(e.f.map (·.1)).Nodup→(s,was)∈e.f →
  ((jZ l e.k s n).map fun e=>(e.f.map (·.2)).sum).sum+was=(l.map fun e=>(e.f.map (·.2)).sum).sum+n
 | [],_,_,_,_,_,h,_,_=>by cases h
 | x::r,s,was,n,e,hk,he,hn,hf=>by
  obtain⟨p1,p2⟩:=zi.1 hk;have e0:jZ (x::r) e.k s n=(if x.k=e.k then { x with f:=qZ x.f s n } else x)::jZ r e.k s n:=rfl;rw[e0];simp only[zV,List.sum_cons]
  rcases zY.1 he with rfl | he
  ·rw[zM1 rfl,qC9 r e.k s n (fun y hy=>Nat.ne_of_gt (p1 y hy))];have:=qCU e.f s was n hn hf;show ((qZ e.f s n).map (·.2)).sum+_+_=_;omega
  ·have hne:x.k≠e.k:=Nat.ne_of_lt (p1 e he);rw[zL1 hne];have ih:=qDx r s was n e p2 he hn hf;omega
theorem qDQ {d d':Dirs}(hd:vC d)(h:d.step=some d'):∃ e∈d.l,∃ s was n t1 t2,stepOf d.t d.l=some (e.k,s,was,n)∧(s,was)∈e.f∧d.t.lesser was=some n∧d.t.link n=.ok t1∧t1.unlink was=.ok t2 ∧
  d'={ d with t:=t2,l:=jZ d.l e.k s n }:=by
 unfold Dirs.step at h
 cases hs:stepOf d.t d.l with
 | none=>rw[hs] at h;cases h
 | some q =>
  obtain⟨k,s,was,n⟩:=q;obtain⟨e,he,rfl,hf,hl⟩:=qCo hs;obtain⟨hlt,b,hr1,hr2,hx⟩:=qBa hl;have hwas:(d.t.at_ was).isSome:=hd.there was (za.2 ⟨e,he,ze (f:=(·.2)) hf⟩);obtain⟨y,hy⟩:=zy.1 hwas;have hn:∃ z,d.t.at_ n=some z:=by
   cases hz:d.t.at_ n with
   | none=>rw[hz,hy] at hx;cases hx
   | some z=>exact⟨z,rfl⟩
  obtain⟨z,hz⟩:=hn;obtain⟨t1,h1⟩:=qIc hz;have hy1:t1.at_ was=some y:=by rw[pL hz h1,zL1 (by omega)];exact hy
  obtain⟨t2,h2⟩:=qBJ hy1;rw[hs] at h;simp only[h1,h2] at h;injection h with h
  exact⟨e,he,s,was,n,t1,t2,rfl,hf,hl,h1,h2,h.symm⟩
theorem step_ok {d d':Dirs}(hd:vC d)(h:d.step=some d') :
  vC d'∧(∀ j,d'.get j=d.get j)∧d'.l.map (·.k)=d.l.map (·.k)∧d'.next=d.next∧d'.weight<d.weight:=by
 obtain⟨e,he,s,was,n,t1,t2,hs,hf,hl,h1,h2,rfl⟩:=qDQ hd h;obtain⟨hlt,b,hr1,hr2,hx⟩:=qBa hl;have hfn:(e.f.map (·.1)).Nodup:=by rw[hd.files e he];exact xI _
 have hwn:was∈nums d.l:=za.2 ⟨e,he,ze (f:=(·.2)) hf⟩;obtain⟨y,hy⟩:=zy.1 (hd.there was hwn);obtain⟨z,hz,_⟩:=wW h1;have hy1:t1.at_ was=some y:=by rw[pL hz h1,zL1 (by omega)];exact hy
 have ha1:=pL hz h1;have ha2:=nR hy1 h2;have hcnt:=fun m=>qB3 d.l s was n m e hd.keys he hfn hf
 have hcw:=List.count_pos_iff.2 hwn;have hyl:=hd.links was y hy;have hkeys:=qGZ d.l e.k s n;have hmem:∀ a∈jZ d.l e.k s n,∃ x∈d.l,a.k=x.k∧a.n=x.n∧a.f.map (·.1)=x.f.map (·.1):=by
  intro a ha;unfold jZ at ha;obtain⟨x,hx2,rfl⟩:=zb.1 ha;refine⟨x,hx2,?_⟩;split
  ·exact⟨rfl,rfl,qGv _ _ _⟩
  ·exact⟨rfl,rfl,rfl⟩
 have hth:∀ m∈nums (jZ d.l e.k s n),(t2.at_ m).isSome:=by
  intro m hm;have hc:=List.count_pos_iff.2 hm;have hcm:=hcnt m;rw[ha2];split
  ·rename_i em
   subst em;rw[zM1 rfl,zL1 (by omega)] at hcm;rw[zL1 (by omega)];rfl
  ·rename_i em
   rw[zL1 em] at hcm;rw[ha1];split
   ·rfl
   ·rename_i em2
    rw[zL1 em2] at hcm;exact hd.there m (List.count_pos_iff.1 (by omega))
 have hread:∀ m,(t2.at_ m).isSome→t2.read m=d.t.read m:=fun m hm=>by rw[qCM h2 hm,qJv h1]
 have hok:vC { d with t:=t2,l:=jZ d.l e.k s n }:=by
  constructor
  ·exact qEK (qKp hd.tab h1) h2
  ·have:=List.pairwise_map.2 hd.keys;rw[← hkeys] at this;exact List.pairwise_map.1 this
  ·intro a ha;obtain⟨x,hx2,e1,_,_⟩:=hmem a ha;rw[e1];exact hd.next x hx2
  ·intro a ha;obtain⟨x,hx2,_,e2,_⟩:=hmem a ha;rw[e2];exact hd.well x hx2
  ·intro a ha;obtain⟨x,hx2,_,e2,_⟩:=hmem a ha;rw[e2];exact hd.bare x hx2
  ·intro a ha;obtain⟨x,hx2,_,e2,e3⟩:=hmem a ha;rw[e3,e2];exact hd.files x hx2
  ·intro m x hx2;have hx3:t2.at_ m=some x:=hx2;rw[ha2] at hx3;have hcm:=hcnt m;show x.links=(nums (jZ d.l e.k s n)).count m;split at hx3
   ·rename_i em
    subst em;split at hx3
    ·cases hx3
    ·injection hx3 with hx3
     subst hx3;rw[zM1 rfl,zL1 (by omega)] at hcm;show y.links-1=_;omega
   ·rename_i em
    rw[zL1 em] at hcm;rw[ha1] at hx3;split at hx3
    ·rename_i em2
     injection hx3 with hx3
     subst hx3;subst em2;rw[zM1 rfl] at hcm;have:=hd.links m z hz;show z.links+1=_;omega
    ·rename_i em2
     rw[zL1 em2] at hcm;have:=hd.links m x hx3;omega
  ·exact hth
 refine⟨hok,?_,hkeys,rfl,?_⟩
 ·intro j;have hent:qN (jZ d.l e.k s n) j=(qN d.l j).map fun a=>if a.k=e.k then { a with f:=qZ a.f s n } else a:=by
   unfold qN jZ;rw[List.find?_map];congr 1;congr 1
   funext a
   simp only[Function.comp];split<;>rfl
  cases hj:qN d.l j with
  | none=>unfold Dirs.get;simp only[hent,hj];rfl
  | some a =>
   rw[hj,zA1] at hent;obtain⟨hal,rfl⟩:=vX hj;by_cases hae:a.k=e.k
   ·have:a=e:=by
     have q1:=jI hd.keys hal;have q2:=jI hd.keys he;rw[hae,q2] at q1;injection q1 with q1
     exact q1.symm
    subst this;rw[zM1 rfl] at hent;refine get_congr hj hent rfl fun x hx2 hk=>?_
    obtain⟨m,hm1,hm2,hm3⟩:=dI hd hal hx2 hk;rw[hm1];show t2.read ((jV (qZ a.f s n) (told x.path)).getD 0)=_;rw[kJ];by_cases hps:told x.path=s
    ·have hmw:m=was:=by
      have:=kA hfn hf;rw[← hps,hm1] at this;injection this
     rw[zM1 hps,hm1];simp only[zA1,zx];rw[hmw,hr1,hread n,hr2];rw[ha2,zL1 (by omega),ha1,zM1 rfl];rfl
    ·rw[zL1 hps,hm1];have hm4:m∈nums (jZ d.l a.k s n):=by
      refine za.2 ⟨{ a with f:=qZ a.f s n },?_,?_⟩
      ·unfold jZ;exact zb.2 ⟨a,hal,by rw[zM1 rfl]⟩
      ·have h5:jV (qZ a.f s n) (told x.path)=some m:=by rw[kJ,zL1 hps,hm1]
       unfold jV at h5
       cases hfd:(qZ a.f s n).find? (fun p=>p.1==told x.path) with
       | none=>rw[hfd] at h5;cases h5
       | some p =>
        rw[hfd] at h5;injection h5 with h5
        rw[← h5];exact ze (f:=(·.2)) (zf hfd)
     exact hread m (hth m hm4)
   ·rw[zL1 hae] at hent;refine get_congr hj hent rfl fun x hx2 hk=>?_
    obtain⟨m,hm1,hm2,hm3⟩:=dI hd hal hx2 hk;rw[hm1];refine hread m (hth m (za.2 ⟨a,?_,hm2⟩));unfold jZ;exact zb.2 ⟨a,hal,by rw[zL1 hae]⟩
 ·have:=qDx d.l s was n e hd.keys he hfn hf;unfold Dirs.weight;show ((jZ d.l e.k s n).map _).sum<_;omega
theorem qEx:∀ (f:Nat) (d:Dirs),vC d→d.weight≤f→vC (Dirs.merge f d).2∧(∀ j,(Dirs.merge f d).2.get j=d.get j)∧(Dirs.merge f d).2.l.map (·.k)=d.l.map (·.k)∧(Dirs.merge f d).2.next=d.next∧(Dirs.merge f d).2.step=none∧(Dirs.merge f d).1≤d.weight
 | 0,d,hd,hw=>by
  have:d.step=none:=by
   cases hs:d.step with
   | none=>rfl
   | some d1=>have:=(step_ok hd hs).2.2.2.2;omega
  exact⟨hd,fun _=>rfl,rfl,rfl,this,by simp[Dirs.merge]⟩
 | f+1,d,hd,hw=>by
  unfold Dirs.merge
  cases hs:d.step with
  | none=>exact⟨hd,fun _=>rfl,rfl,rfl,hs,by simp⟩
  | some d1 =>
   obtain⟨a1,a2,a3,a4,a5⟩:=step_ok hd hs;obtain⟨b1,b2,b3,b4,b5,b6⟩:=qEx f d1 a1 (by omega);exact⟨b1,fun j=>by rw[b2,a2],by rw[b3,a3],by rw[b4,a4],b5,by simp only;omega⟩
end Stl
