/- Texts of this claim, merged: PutPure, SpacePure, Mem, MapIs. -/
import Derived.Maps.OwnSet
import Derived.Maps.RangeWalk
import Derived.Test.YthogfjmnnaoldaaGreatDoorGm02
set_option maxHeartbeats 16000000
set_option maxRecDepth 1000000
set_option linter.all false
namespace Stl
theorem get_congr {d d':Dirs} {k:Nat} {e e':Ent} (h1:qAh d.l k=some e) (h2:qAh d'.l k=some e') (hn:e'.n=e.n)
  (h:∀ x∈flat e.n [] 0,x.n.kind=kFile→d'.t.read ((qAG e'.f (told x.path)).getD 0)=d.t.read ((qAG e.f (told x.path)).getD 0)):d'.get k=d.get k:=by
 unfold Dirs.get
 rw [h1,h2]
 simp only [hn]
 exact qGq e.n [] 0 h
theorem qFs (a b:List Ent):nums (a++b)=nums a++nums b:=by simp [nums]
theorem qKg (e:Ent):nums [e]=e.f.map (·.2):=by simp [nums]
theorem qF3 {d d':Dirs} {n:Nd} {k:Nat} (h:d.put n=.ok (k,d')):treeErr n=0∧qCv n≤d.t.free.length∧k=d.next ∧
  ∃ f t,makeAll d.t (qAe n)=.ok (f,t)∧d'={ t:=t,l:=d.l++[⟨d.next,qAn n,f⟩],next:=d.next+1 }:=by
 unfold Dirs.put at h
 split at h
 ·cases h
 ·rename_i h1
  split at h
  ·cases h
  ·rename_i h2
   split at h
   ·cases h
   ·rename_i f t hm
    injection h with h
    injection h with e1 e2
    exact ⟨by omega,by omega,e1.symm,f,t,hm,e2.symm⟩
theorem qQP {d d':Dirs} {n:Nd} {k:Nat} (hd:qAD d) (h:d.put n=.ok (k,d')) :
  qAD d'∧d'.get k=.ok n∧(∀ j,j<d.next→d'.get j=d.get j):=by
 obtain ⟨h0,_,rfl,f,t,hm,rfl⟩:=qF3 h
 obtain ⟨m1,m2,m3,m4,m5,m6,m7,m8⟩:=qFb _ _ _ _ hd.tab hm
 have hall:=qD0 h0
 have hfiles:f.map (·.1)=qAx n:=by rw [m2];rfl
 have hne:∀ j,j<d.next→qAh (d.l++[⟨d.next,qAn n,f⟩]) j=qAh d.l j:=by
  intro j hj
  unfold qAh
  rw [List.find?_append]
  have:(List.find? (fun e:Ent=>e.k==j) [⟨d.next,qAn n,f⟩])=none:=by
   rw [List.find?_eq_none]
   intro e he
   simp at he
   subst he
   simp
   omega
  rw [this]
  cases List.find? (fun e:Ent=>e.k==j) d.l<;>rfl
 have hlt:∀ e∈d.l,e.k≠d.next:=fun e he=>Nat.ne_of_lt (hd.next e he)
 have hnew:qAh (d.l++[⟨d.next,qAn n,f⟩]) d.next=some ⟨d.next,qAn n,f⟩:=by
  unfold qAh
  rw [List.find?_append]
  have:(List.find? (fun e:Ent=>e.k==d.next) d.l)=none:=by
   rw [List.find?_eq_none]
   intro e he
   simpa using hlt e he
  rw [this]
  simp
 have hold:∀ m∈nums d.l,m∉f.map (·.2):=by
  intro m hm2 hm3
  have:=hd.there m hm2
  rw [m4 m hm3] at this
  cases this
 refine ⟨?_,?_,?_⟩
 ·constructor
  ·exact m1
  ·show (d.l++[_]).Pairwise _
   rw [List.pairwise_append]
   refine ⟨hd.keys,by simp,fun a ha b hb=>?_⟩
   simp at hb
   subst hb
   exact hd.next a ha
  ·intro e he
   rcases zZ.1 he with he | he
   ·have:=hd.next e he;show _<d.next+1;omega
   ·simp at he;subst he;show d.next<d.next+1;omega
  ·intro e he
   rcases zZ.1 he with he | he
   ·exact hd.well e he
   ·simp at he;subst he;exact qER h0
  ·intro e he
   rcases zZ.1 he with he | he
   ·exact hd.bare e he
   ·simp at he;subst he;exact qI7 n
  ·intro e he
   rcases zZ.1 he with he | he
   ·exact hd.files e he
   ·simp at he;subst he
    show f.map (·.1)=qAx (qAn n)
    rw [qIm h0];exact hfiles
  ·intro m x hx
   show x.links=(nums (d.l++[_])).count m
   rw [qFs,qKg,List.count_append]
   by_cases hm2:m∈f.map (·.2)
   ·obtain ⟨y,hy,hl⟩:=m6 m hm2
    have hx':t.at_ m=some x:=hx
    rw [hy] at hx'
    injection hx' with e
    subst e
    have h1:(nums d.l).count m=0:=List.count_eq_zero.2 fun h2=>hold m h2 hm2
    have h2:(f.map (·.2)).count m=1:=by
     have:=List.nodup_iff_count.1 m3 m
     have:=List.count_pos_iff.2 hm2
     omega
    rw [hl,h1,zx]
    exact h2.symm
   ·have h1:=(m5 m hm2).1
    have hx':t.at_ m=some x:=hx
    rw [h1] at hx'
    rw [hd.links m x hx',List.count_eq_zero.2 hm2]
    rfl
  ·intro m hm2
   rw [qFs,qKg] at hm2
   rcases zZ.1 hm2 with hm2 | hm2
   ·show (t.at_ m).isSome
    rw [(m5 m (hold m hm2)).1]
    exact hd.there m hm2
   ·obtain ⟨y,hy,_⟩:=m6 m hm2
    show (t.at_ m).isSome
    rw [hy];rfl
 ·unfold Dirs.get
  simp only [hnew]
  refine qIG n [] 0 hall fun x hx hk=>?_
  have hxi:x∈qAe n:=by
   unfold qAe items
   rw [zN1 h0]
   exact zb.2 ⟨hx,by simpa using hk⟩
  have hlen:f.length=(qAe n).length:=by
   have:=congrArg List.length m2
   simpa using this
  obtain ⟨i,hi,hxe⟩:=List.getElem_of_mem hxi
  have hif:i<f.length:=by omega
  have hz:(f[i],x)∈f.zip (qAe n):=by
   rw [List.mem_iff_getElem]
   refine ⟨i,by simp;omega,?_⟩
   simp [hxe]
  have h1:=(m7 _ hz).1
  have hpath:(f[i]).1=told x.path:=by
   have e1:(f.map (·.1))[i]'(by simpa using hif)=((qAe n).map fun x=>told x.path)[i]'(by simpa using hi):=by
    simp only [m2]
   simpa [hxe] using e1
  have hnum:qAG f (told x.path)=some (f[i]).2:=by
   apply qBs (by rw [hfiles];exact qBT n)
   rw [← hpath]
   exact zP hif
  rw [hnum]
  exact h1
 ·intro j hj
  cases he:qAh d.l j with
  | none=>unfold Dirs.get;simp only [hne j hj,he]
  | some e =>
   have heq:=hne j hj
   rw [he] at heq
   refine get_congr he heq rfl fun x hx hk=>?_
   obtain ⟨hel,_⟩:=qA1 he
   obtain ⟨m,hm1,hm2,_⟩:=qFw hd hel hx hk
   rw [hm1]
   exact (m5 m (hold m (ze.2 ⟨e,hel,hm2⟩))).2
theorem qNb {d:Dirs} {n:Nd} (hd:qAD d) (h0:treeErr n=0) (h1:qCv n≤d.t.free.length):∃ k d',d.put n=.ok (k,d'):=by
 have hb:∀ x∈qAe n,x.n.data.length≤2000:=by
  intro x hx
  unfold qAe items at hx
  rw [zN1 h0] at hx
  obtain ⟨h2,h3⟩:=zb.1 hx
  exact (qFo (qD0 h0 x h2) (by simpa using h3)).2
 obtain ⟨f,t,hm,_⟩:=qCH (qAe n) d.t hd.tab hb h1
 unfold Dirs.put
 rw [zM1 (by omega),zM1 (by omega),hm]
 exact ⟨_,_,rfl⟩
theorem qCh:∀ (f:List (Bytes×Nat)) (t:Tab) (o:List Nat),qBj t→(∀ n x,t.at_ n=some x→x.links=(f.map (·.2)).count n+o.count n)→(∀ n∈f.map (·.2),(t.at_ n).isSome) →
  qBj (qAf t f)∧(qAf t f).disk=t.disk∧(∀ n x,(qAf t f).at_ n=some x→x.links=o.count n∧(t.at_ n).isSome)∧(∀ n,0<o.count n→(t.at_ n).isSome→((qAf t f).at_ n).isSome) ∧
   (∀ n,((qAf t f).at_ n).isSome→(qAf t f).read n=t.read n∧((qAf t f).at_ n).map (·.exec)=(t.at_ n).map (·.exec))
 | [],t,o,ht,hl,hth=>by
  simp only [qAf]
  refine ⟨ht,by simp,fun n x hx=>⟨by simpa using hl n x hx,by rw [hx];rfl⟩,fun n _ h=>h,fun n _=>by simp⟩
 | (s,m)::r,t,o,ht,hl,hth=>by
  obtain ⟨x,hx⟩:=zA1.1 (hth m (by simp))
  obtain ⟨t1,h1⟩:=qE8 hx
  have ha:=qDi hx h1
  have hx1:=hl m x hx
  simp only [zX,List.count_cons_self] at hx1
  have e:qAf t ((s,m)::r)=qAf t1 r:=by simp only [qAf,h1]
  have hd1:t1.disk=t.disk:=by obtain ⟨_,_,rfl⟩:=qBp h1;rfl
  have hl1:∀ n y,t1.at_ n=some y→y.links=(r.map (·.2)).count n+o.count n:=by
   intro n y hy
   rw [ha] at hy
   split at hy
   ·rename_i en
    split at hy
    ·cases hy
    ·injection hy with hy
     subst hy
     subst en
     show x.links-1=_
     omega
   ·rename_i en
    have:=hl n y hy
    simp only [zX] at this
    rw [List.count_cons_of_ne (Ne.symm en)] at this
    exact this
  have hth1:∀ n∈r.map (·.2),(t1.at_ n).isSome:=by
   intro n hn
   rw [ha]
   split
   ·rename_i en
    subst en
    have:=List.count_pos_iff.2 hn
    rw [zM1 (by omega)]
    rfl
   ·exact hth n (by simp only [zX];exact List.mem_cons_of_mem _ hn)
  obtain ⟨i1,i2,i3,i4,i5⟩:=qCh r t1 o (qIJ ht h1) hl1 hth1
  rw [e]
  refine ⟨i1,by rw [i2,hd1],fun n y hy=>?_,fun n hn hs=>?_,fun n hn=>?_⟩
  ·obtain ⟨j1,j2⟩:=i3 n y hy
   refine ⟨j1,?_⟩
   rw [ha] at j2
   split at j2
   ·rename_i en;rw [en,hx];rfl
   ·exact j2
  ·refine i4 n hn ?_
   rw [ha]
   split
   ·rename_i en
    subst en
    rw [zM1 (by omega)]
    rfl
   ·exact hs
  ·obtain ⟨j1,j2⟩:=i5 n hn
   obtain ⟨y,hy⟩:=zA1.1 hn
   have hs1:=(i3 n y hy).2
   refine ⟨by rw [j1];exact qDN h1 hs1,?_⟩
   rw [j2,ha]
   rw [ha] at hs1
   split
   ·rename_i en
    rw [zN1 en] at hs1
    subst en
    split
    ·rename_i h2;rw [zN1 h2] at hs1;cases hs1
    ·rw [hx];rfl
   ·rfl
theorem qEJ {l:List Ent} (hk:l.Pairwise (fun a b=>a.k<b.k)) {e:Ent} (he:e∈l) (n:Nat):(nums l).count n=(e.f.map (·.2)).count n+(nums (l.filter fun x=>x.k != e.k)).count n:=by
 induction l with
 | nil=>cases he
 | cons x r ih =>
  obtain ⟨p1,p2⟩:=zk.1 hk
  have e1:nums (x::r)=x.f.map (·.2)++nums r:=by simp [nums]
  rw [e1,List.count_append]
  rcases za.1 he with rfl | he
  ·have e2:(e::r).filter (fun x=>x.k != e.k)=r:=by
    rw [zJ]
    have h1:(e.k != e.k)=false:=by simp
    rw [h1]
    simp only [Bool.false_eq_true,if_false]
    rw [List.filter_eq_self]
    intro y hy
    have:=p1 y hy
    simp
    omega
   rw [e2]
  ·have h1:(x.k != e.k)=true:=by have:=p1 e he;simp;omega
   rw [zJ,h1]
   simp only [if_true]
   have e3:nums (x::r.filter fun y=>y.k != e.k)=x.f.map (·.2)++nums (r.filter fun y=>y.k != e.k):=by simp [nums]
   rw [e3,List.count_append,ih p2 he]
   omega
theorem qJT {d d':Dirs} {k:Nat} (hd:qAD d) (h:d.drop k=.ok d'):qAD d'∧(∀ j,j≠k→d'.get j=d.get j)∧d'.l=d.l.filter (fun x=>x.k != k)∧d'.next=d.next:=by
 unfold Dirs.drop at h
 cases he:qAh d.l k with
 | none=>rw [he] at h;cases h
 | some e =>
  rw [he] at h
  injection h with h
  subst h
  obtain ⟨hel,rfl⟩:=qA1 he
  obtain ⟨u1,u2,u3,u4,u5⟩:=qCh e.f d.t (nums (d.l.filter fun x=>x.k != e.k)) hd.tab
   (fun n x hx=>by rw [hd.links n x hx,qEJ hd.keys hel]) (fun n hn=>hd.there n (ze.2 ⟨e,hel,hn⟩))
  have hth:∀ n∈nums (d.l.filter fun x=>x.k != e.k),((qAf d.t e.f).at_ n).isSome:=by
   intro n hn
   refine u4 n (List.count_pos_iff.2 hn) (hd.there n ?_)
   obtain ⟨a,ha,hb⟩:=ze.1 hn
   exact ze.2 ⟨a,(zb.1 ha).1,hb⟩
  refine ⟨⟨u1,hd.keys.filter _,fun a ha=>hd.next a (zb.1 ha).1,fun a ha=>hd.well a (zb.1 ha).1,fun a ha=>hd.bare a (zb.1 ha).1,
   fun a ha=>hd.files a (zb.1 ha).1,fun n x hx=>(u3 n x hx).1,hth⟩,?_,rfl,rfl⟩
  intro j hj
  have hf:qAh (d.l.filter fun x=>x.k != e.k) j=qAh d.l j:=by
   unfold qAh
   rw [List.find?_filter]
   congr 1
   funext x
   by_cases hx:x.k=j
   ·simp [hx,hj]
   ·simp [hx]
  cases hj2:qAh d.l j with
  | none=>unfold Dirs.get;simp only [hf,hj2]
  | some a =>
   rw [hj2] at hf
   refine get_congr hj2 hf rfl fun x hx hk=>?_
   obtain ⟨hal,rfl⟩:=qA1 hj2
   obtain ⟨m,hm1,hm2,hm3⟩:=qFw hd hal hx hk
   rw [hm1]
   exact (u5 m (hth m (ze.2 ⟨a,zb.2 ⟨hal,by simpa using hj⟩,hm2⟩))).1
def qBi:Nat→List Bool→List Nat
 | _,[]=>[]
 | i,true::r=>qBi (i+1) r
 | i,false::r=>i::qBi (i+1) r
def qFq:Nat→List Bool→List Nat
 | _,[]=>[]
 | i,false::r=>qFq (i+1) r
 | i,true::r=>i::qFq (i+1) r
def qHb (U:List Bool):List Nat:=qBi 0 U
def ons (U:List Bool):List Nat:=qFq 0 U
def qBl (U:List Bool) (v:Bool):List Nat→List Bool
 | []=>U
 | k::r=>qBl (U.set k v) v r
theorem qDU:∀ (a b:List Bool) (i:Nat),qFq i (a++b)=qFq i a++qFq (i+a.length) b
 | [],b,i=>by simp [qFq]
 | true::a,b,i=>by simp [qFq,qDU a b (i+1),Nat.add_assoc,Nat.add_comm 1]
 | false::a,b,i=>by simp [qFq,qDU a b (i+1),Nat.add_assoc,Nat.add_comm 1]
theorem qB7:∀ (a b:List Bool) (i:Nat),qBi i (a++b)=qBi i a++qBi (i+a.length) b
 | [],b,i=>by simp [qBi]
 | true::a,b,i=>by simp [qBi,qB7 a b (i+1),Nat.add_assoc,Nat.add_comm 1]
 | false::a,b,i=>by simp [qBi,qB7 a b (i+1),Nat.add_assoc,Nat.add_comm 1]
theorem qBS:∀ (U:List Bool) (i:Nat),(qFq i U).length+(qBi i U).length=U.length
 | [],_=>rfl
 | true::r,i=>by have:=qBS r (i+1);simp [qFq,qBi];omega
 | false::r,i=>by have:=qBS r (i+1);simp [qFq,qBi];omega
theorem qBe:∀ (ks:List Nat) (U:List Bool) (v:Bool),(qBl U v ks).length=U.length
 | [],_,_=>rfl
 | k::r,U,v=>by rw [qBl,qBe r];simp
theorem qEp:∀ (ks:List Nat) (U:List Bool) (v:Bool) (j:Nat),j<U.length→(qBl U v ks)[j]?=if j∈ks then some v else U[j]?
 | [],U,v,j,_=>by simp [qBl]
 | k::r,U,v,j,hj=>by
  rw [qBl,qEp r (U.set k v) v j (by simpa using hj)]
  by_cases h1:j∈r
  ·simp [h1]
  ·by_cases h2:j=k
   ·subst h2
    simp [h1,hj]
   ·simp [h1,h2,List.getElem?_set,Ne.symm h2]
def qAU (T:Tab):List Bool:=(List.range T.disk.length).map T.isUsed
theorem qAp (T:Tab):(qAU T).length=T.disk.length:=by simp [qAU]
theorem qDf {T:Tab} {k:Nat} (h:k<T.disk.length):(qAU T)[k]?=some (T.isUsed k):=by simp [qAU,h]
theorem qFP (p:Nat→Bool):∀ (n i:Nat),qBi i ((List.range' i n).map p)=(List.range' i n).filter fun k=>!p k
 | 0,_=>rfl
 | n+1,i=>by
  rw [List.range'_succ,zX,zJ]
  cases h:p i<;>simp [qBi,h,qFP p n (i+1)]
theorem qDd (T:Tab):qHb (qAU T)=T.free:=by
 unfold qHb qAU Tab.free
 rw [List.range_eq_range']
 exact qFP T.isUsed _ 0
theorem qIa {U V:List Bool} (hl:U.length=V.length) (h:∀ j,j<U.length→U[j]?=V[j]?):U=V:=by
 apply List.ext_getElem?
 intro j
 rcases zw j U.length with h1 | h1
 ·exact h j h1
 ·rw [List.getElem?_eq_none h1,List.getElem?_eq_none (by omega)]
theorem qI5 {T T':Tab} (h:∀ m,(T'.at_ m).map (·.blocks)=(T.at_ m).map (·.blocks)) (k:Nat):T'.isUsed k=T.isUsed k:=by
 have half:∀ {A B:Tab},(∀ m,(A.at_ m).map (·.blocks)=(B.at_ m).map (·.blocks))→A.isUsed k=true→B.isUsed k=true:=by
  intro A B h hA
  obtain ⟨n,x,h1,h2⟩:=qAr.1 hA
  have h3:=h n
  rw [h1] at h3
  cases hb:B.at_ n with
  | none=>rw [hb] at h3;cases h3
  | some y =>
   rw [hb] at h3
   simp only [zB1,zC1] at h3
   exact qAr.2 ⟨n,y,hb,by rw [← h3];exact h2⟩
 cases h1:T.isUsed k with
 | true=>exact half (fun m=>(h m).symm) h1
 | false =>
  cases h2:T'.isUsed k with
  | false=>rfl
  | true=>rw [half h h2] at h1;cases h1
theorem qEW {T T':Tab} (hd:T'.disk.length=T.disk.length) (h:∀ m,(T'.at_ m).map (·.blocks)=(T.at_ m).map (·.blocks)):qAU T'=qAU T:=by
 unfold qAU
 rw [hd]
 exact List.map_congr_left fun k _=>qI5 h k
theorem qJx {T T':Tab} {data:Bytes} {exec:Bool} {n:Nat} (h:T.make data exec=.ok (n,T')):qAU T'=qBl (qAU T) true ((qHb (qAU T)).take (qAA data.length)):=by
 have hat:=qDl h
 have hwas:=qEr h
 obtain ⟨_,_,_,e⟩:=qBb h
 have hdl:T'.disk.length=T.disk.length:=by rw [e];exact qAJ _ _ _
 rw [qDd]
 apply qIa (by rw [qBe,qAp,qAp,hdl])
 intro j hj
 rw [qAp,hdl] at hj
 rw [qEp _ _ _ _ (by rw [qAp];exact hj),qDf (by rw [hdl];exact hj),qDf hj]
 by_cases hm:j∈T.free.take (qAA data.length)
 ·rw [zN1 hm]
  exact congrArg some (qAr.2 ⟨n,_,by rw [hat,zN1 rfl],hm⟩)
 ·rw [zM1 hm]
  congr 1
  cases hu:T.isUsed j with
  | true =>
   obtain ⟨m,x,h1,h2⟩:=qAr.1 hu
   refine qAr.2 ⟨m,x,?_,h2⟩
   rw [hat,zM1 (fun e=>by subst e;rw [hwas] at h1;cases h1)]
   exact h1
  | false =>
   cases hu2:T'.isUsed j with
   | false=>rfl
   | true =>
    obtain ⟨m,x,h1,h2⟩:=qAr.1 hu2
    rw [hat] at h1
    by_cases hmn:m=n
    ·rw [zN1 hmn] at h1
     cases h1
     exact absurd h2 hm
    ·rw [zM1 hmn] at h1
     rw [qAr.2 ⟨m,x,h1,h2⟩] at hu
     cases hu
theorem qJ0 {T:Tab} {n:Nat} {x:Ino} (ht:qBj T) (hx:T.at_ n=some x):qAU { T with l:=T.l.set n none }=qBl (qAU T) false x.blocks:=by
 have hn:=qEi hx
 have hat:∀ m,Tab.at_ { T with l:=T.l.set n none } m=if m=n then none else T.at_ m:=fun m=>qGK T.l n none hn m
 apply qIa (by rw [qBe,qAp,qAp])
 intro j hj
 rw [qAp] at hj
 have hj':j<T.disk.length:=hj
 rw [qEp _ _ _ _ (by rw [qAp];exact hj'),qDf hj,qDf hj']
 by_cases hm:j∈x.blocks
 ·rw [zN1 hm]
  congr 1
  cases hu:Tab.isUsed { T with l:=T.l.set n none } j with
  | false=>rfl
  | true =>
   obtain ⟨m,y,h1,h2⟩:=qAr.1 hu
   rw [hat] at h1
   by_cases hmn:m=n
   ·rw [zN1 hmn] at h1;cases h1
   ·rw [zM1 hmn] at h1
    exact absurd (ht.apart m n y x j h1 hx h2 hm) hmn
 ·rw [zM1 hm]
  congr 1
  cases hu:T.isUsed j with
  | true =>
   obtain ⟨m,y,h1,h2⟩:=qAr.1 hu
   have hmn:m≠n:=fun e=>by subst e;rw [hx] at h1;cases h1;exact hm h2
   exact qAr.2 ⟨m,y,by rw [hat,zM1 hmn];exact h1,h2⟩
  | false =>
   cases hu2:Tab.isUsed { T with l:=T.l.set n none } j with
   | false=>rfl
   | true =>
    obtain ⟨m,y,h1,h2⟩:=qAr.1 hu2
    rw [hat] at h1
    by_cases hmn:m=n
    ·rw [zN1 hmn] at h1;cases h1
    ·rw [zM1 hmn] at h1
     rw [qAr.2 ⟨m,y,h1,h2⟩] at hu
     cases hu
theorem qEl (x:UInt32):BitVec.ofInt 32 (x.toNat:Int)=x.toBitVec:=by
 rw [BitVec.ofInt_natCast]
 simp
theorem u32_xor (x y:UInt32):(BitVec.ofInt 32 (x.toNat:Int) ^^^ BitVec.ofInt 32 (y.toNat:Int)).toNat=(x ^^^ y).toNat:=by
 rw [qEl,qEl];rfl
theorem u32_and (x y:UInt32):(BitVec.ofInt 32 (x.toNat:Int) &&& BitVec.ofInt 32 (y.toNat:Int)).toNat=(x &&& y).toNat:=by
 rw [qEl,qEl];rfl
theorem qKM (n:Nat) (h:n<4294967296):Go.IntKind.wrap .u32 (n:Int)=n:=by
 simp [Go.IntKind.wrap,Go.IntKind.bits,Go.IntKind.signed]
 omega
end Stl
namespace Stl
open Go Go.RowKit
inductive Col where
 | free | ro | dead | sto | stoL | roots | dirs | dirsMap | files (k:Nat) | tab | tabMap | stat (n:Nat) | space | used | disk | diskL | wait | tape | tapeL
 deriving DecidableEq
structure Ext (w w2:World) (c c2:Nat→Col) (S:Col→Bool):Prop where
 os:w2.os=w.os
 tape:w2.tape=w.tape
 output:w2.output=w.output
 size:w.heap.size≤w2.heap.size
 keep:∀ b,b<w.heap.size→S (c b)=false→w2.heap[b]?=w.heap[b]?∧c2 b=c b
def S0:Col→Bool:=fun _=>false
def S1 (x:Col):Col→Bool:=fun y=>decide (y=x)
theorem qBk {x y:Col} (h:y≠x):S1 x y=false:=by simp [S1,h]
theorem qAF {S:Col→Bool} {y:Col} (h:S y=true):∀ x,S x=false→S1 y x=false:=fun x hx=>qBk (fun e=>by subst e;rw [h] at hx;cases hx)
section
variable {w w2 w3:World} {c c2 c3:Nat→Col} {S S':Col→Bool}
theorem Ext.refl (w:World) (c:Nat→Col) (S:Col→Bool):Ext w w c c S:=⟨rfl,rfl,rfl,zr _,fun _ _ _=>⟨rfl,rfl⟩⟩
theorem Ext.mono (h:Ext w w2 c c2 S) (hS:∀ x,S' x=false→S x=false):Ext w w2 c c2 S':=⟨h.os,h.tape,h.output,h.size,fun b hb hs=>h.keep b hb (hS _ hs)⟩
theorem Ext.trans (h:Ext w w2 c c2 S) (k:Ext w2 w3 c2 c3 S):Ext w w3 c c3 S :=
 ⟨k.os.trans h.os,k.tape.trans h.tape,k.output.trans h.output,zt h.size k.size,fun b hb hs=>by
  obtain ⟨h1,h2⟩:=h.keep b hb hs
  obtain ⟨k1,k2⟩:=k.keep b (zv hb h.size) (by rw [h2];exact hs)
  exact ⟨k1.trans h1,k2.trans h2⟩⟩
theorem Ext.then (h:Ext w w2 c c2 S) (k:Ext w2 w3 c2 c3 S') (hS:∀ x,S x=false→S' x=false):Ext w w3 c c3 S:=h.trans (k.mono hS)
theorem Ext.of_below (h:Below w.heap.size w w2) (c:Nat→Col) (S:Col→Bool):Ext w w2 c c S:=⟨h.os,h.tape,h.output,h.size,fun b hb _=>⟨h.block b hb,rfl⟩⟩
theorem Ext.drew (h:Ext w w2 c c2 S):Ext w w2.drew c c2 S:=⟨h.os,h.tape,h.output,h.size,h.keep⟩
theorem Ext.alloc (h:Ext w w2 c c2 S) (o:Obj):Ext w (w2.alloc o) c c2 S :=
 ⟨h.os,h.tape,h.output,zt h.size (by simp),fun b hb hs=>⟨(Below.heap_alloc _ _ _ (zv hb h.size)).trans (h.keep b hb hs).1,(h.keep b hb hs).2⟩⟩
theorem Ext.setCell (h:Ext w w2 c c2 S) {a:Addr} (ha:a.block<w.heap.size→S (c a.block)=true) (u:Value):Ext w (w2.setCell a u) c c2 S :=
 ⟨h.os,h.tape,h.output,by simpa [World.setCell] using h.size,fun b hb hs=>⟨(zB _ _ _ _ (fun e=>by subst e;rw [ha hb] at hs;cases hs)).trans (h.keep b hb hs).1,(h.keep b hb hs).2⟩⟩
theorem Ext.grown {row:Option Nat} (h:Ext w w2 c c2 S) (hg:w2.grownBy w3 row) (hr:∀ k,row=some k→k<w.heap.size→S (c k)=true):Ext w w3 c c2 S :=
 ⟨hg.os.trans h.os,hg.tape.trans h.tape,hg.output.trans h.output,zt h.size hg.size,
  fun b hb hs=>⟨(hg.block b (zv hb h.size) (fun e=>by rw [hr b e.symm hb] at hs;cases hs)).trans (h.keep b hb hs).1,(h.keep b hb hs).2⟩⟩
theorem Ext.recolor (h:Ext w w2 c c2 S) (hc:∀ b,b<w.heap.size→S (c b)=false→c3 b=c2 b):Ext w w2 c c3 S :=
 ⟨h.os,h.tape,h.output,h.size,fun b hb hs=>⟨(h.keep b hb hs).1,(hc b hb hs).trans (h.keep b hb hs).2⟩⟩
theorem Ext.below (h:Ext w w2 c c2 S) {B:Nat} (hB:B≤w.heap.size) (hlow:∀ b,b<B→S (c b)=false):Below B w w2 :=
 ⟨h.os,h.tape,h.output,h.size,fun b hb=>(h.keep b (zv hb hB) (hlow b hb)).1⟩
def qAz (c:Nat→Col) (b:Nat) (x:Col):Nat→Col:=fun k=>if k=b then x else c k
theorem qAl (c:Nat→Col) (b:Nat) (x:Col):qAz c b x b=x:=by simp [qAz]
theorem qEA {b k:Nat} {x:Col} (h:k≠b):qAz c b x k=c k:=by simp [qAz,h]
theorem qAg {b k n:Nat} {x:Col} (h:k<n) (hb:n≤b):qAz c b x k=c k:=qEA (by omega)
theorem Ext.made (w:World) (c:Nat→Col) (S:Col→Bool) (o:Obj) (x:Col):Ext w (w.alloc o) c (qAz c w.heap.size x) S :=
 ((Ext.refl w c S).alloc o).recolor (fun b hb _=>qAg hb (zr _))
theorem qF7 {a b:Nat} {x y:Col} (ha:c a=x) (hb:c b=y) (h:x≠y):a≠b:=fun e=>h (by rw [← ha,← hb,e])
theorem qAa {b:Nat} {o:Obj} (h:w.heap[b]?=some o):b<w.heap.size:=(Array.getElem?_eq_some_iff.1 h).1
theorem Ext.kept (h:Ext w w2 c c2 S) {b:Nat} {o:Obj} {x:Col} (hb:w.heap[b]?=some o) (hc:c b=x) (hS:S x=false):w2.heap[b]?=some o∧c2 b=x:=by
 obtain ⟨h1,h2⟩:=h.keep b (qAa hb) (by rw [hc];exact hS)
 exact ⟨h1.trans hb,h2.trans hc⟩
theorem Ext.col (h:Ext w w2 c c2 S) {b:Nat} {x:Col} (hb:b<w.heap.size) (hc:c b=x) (hS:S x=false):c2 b=x:=(h.keep b hb (by rw [hc];exact hS)).2.trans hc
theorem Ext.row (h:Ext w w2 c c2 S) {base:Nat} {e:TypeId} {size:Nat} {v:Value} {n:Nat} {xs:List Value} {x:Col} (hr:w.ownsRow base e size v n xs) (hc:∀ k,v.ownBlock=some k→c k=x) (hS:S x=false) :
  w2.ownsRow base e size v n xs∧∀ k,v.ownBlock=some k→c2 k=x:=by
 refine ⟨?_,fun k hk=>h.col (hr.lt k hk).2 (hc k hk) hS⟩
 obtain ⟨h1,h2⟩:=hr
 refine ⟨h1,?_⟩
 rcases h2 with h2 | ⟨g,cap,cur,rfl,hb,hg,h3⟩
 ·exact .inl h2
 ·exact .inr ⟨g,cap,cur,rfl,hb,(h.kept hg (hc g rfl) hS).1,h3⟩
end
theorem qMh {w:World} {b:Nat} {cs:Array Value} {t:TypeId} {fr:Nat×Nat} (h:w.heap[b]?=some (.cells cs t fr)) (i:Nat):w.cell? ⟨b,i,none⟩=cs[i]?:=by
 simp [World.cell?,h]
theorem qAb {w:World} {b:Nat} {cs:Array Value} {t:TypeId} (h:w.heap[b]?=some (.cells cs t (0,0))) (i:Nat):w.frozen? ⟨b,i,none⟩=false:=by
 simp [World.frozen?,h]
theorem qAd {w:World} {b:Nat} {cs:Array Value} {t:TypeId} {fr:Nat×Nat} (h:w.heap[b]?=some (.cells cs t fr)) (i:Nat) (u:Value):(w.setCell ⟨b,i,none⟩ u).heap[b]?=some (.cells (cs.setIfInBounds i u) t fr):=by
 simp [World.setCell,Array.getElem?_modify,h]
theorem Ext.cell {w:World} {c:Nat→Col} {b:Nat} {cs:Array Value} {t:TypeId} {fr:Nat×Nat} {x:Col} (h:w.heap[b]?=some (.cells cs t fr)) (hc:c b=x) (i:Nat) (u:Value) :
  (w.setCell ⟨b,i,none⟩ u).heap[b]?=some (.cells (cs.setIfInBounds i u) t fr)∧Ext w (w.setCell ⟨b,i,none⟩ u) c c (S1 x) :=
 ⟨qAd h i u,(Ext.refl w c (S1 x)).setCell (fun _=>by rw [hc];simp [S1]) u⟩
end Stl
namespace Stl
open Go Go.Maps
def qCf:Value→Option (DataW Value×List MemPlace):=fun v=>some (.held v,[])
structure MapIs {α:Type} (key:α→Lit) (D:DataW Value) (f:α→Option Value):Prop where
 map:IsMap D
 at_:∀ k v,f k=some v→∀ z,D.atKey (key k) z=.held v
 none_:∀ k,f k=none→has D (key k)=false
 has_:∀ l,has D l=true→∃ k v,l=key k∧f k=some v
section
variable {α:Type} {key:α→Lit} {D:DataW Value} {f:α→Option Value}
theorem MapIs.empty:MapIs key (.map []:DataW Value) (fun _:α=>none) :=
 ⟨isMap_empty,fun k v h=>(by cases h),fun k _=>rfl,fun l h=>(by cases h)⟩
theorem MapIs.has_at (h:MapIs key D f) {k:α} {v:Value} (hk:f k=some v):has D (key k)=true:=has_true_of_atKey (h.at_ k v hk)
theorem MapIs.has_eq (h:MapIs key D f) (k:α):has D (key k)=(f k).isSome:=by
 cases hk:f k with
 | none=>simpa using h.none_ k hk
 | some v=>simpa using h.has_at hk
theorem MapIs.zero (h:MapIs key D f) {k:α} (hk:f k=none) (z:DataW Value):D.atKey (key k) z=z:=atKey_of_not_has (h.none_ k hk) z
theorem MapIs.look (h:MapIs key D f) (k:α) (z:Value):D.atKey (key k) (.held z)=.held ((f k).getD z):=by
 cases hk:f k with
 | none=>simpa using h.zero hk _
 | some v=>simpa using h.at_ k v hk _
theorem MapIs.put [DecidableEq α] (h:MapIs key D f) (inj:∀ a b,key a=key b→a=b) (k:α) (hk:WideAt.IsKeyLit (key k)) (v:Value):MapIs key (D.put (key k) (.held v)) (fun j=>if j=k then some v else f j):=by
 refine ⟨h.map.put _ _,?_,?_,?_⟩
 ·intro j u hj z
  by_cases e:j=k
  ·subst e
   rw [zN1 rfl] at hj
   cases hj
   exact atKey_put_same h.map hk _ _
  ·rw [zM1 e] at hj
   rw [atKey_put_other (fun h'=>e (inj _ _ h'))]
   exact h.at_ j u hj z
 ·intro j hj
  by_cases e:j=k
  ·rw [zN1 e] at hj;cases hj
  ·rw [zM1 e] at hj
   rw [has_put_other (fun h'=>e (inj _ _ h'))]
   exact h.none_ j hj
 ·intro l hl
  by_cases e:l=key k
  ·exact ⟨k,v,e,by simp⟩
  ·rw [has_put_other e] at hl
   obtain ⟨j,u,rfl,hj⟩:=h.has_ l hl
   exact ⟨j,u,rfl,by rw [zM1 (fun h'=>e (by rw [h']))];exact hj⟩
theorem MapIs.del [DecidableEq α] (h:MapIs key D f) (inj:∀ a b,key a=key b→a=b) (k:α):MapIs key (D.del (key k)) (fun j=>if j=k then none else f j):=by
 refine ⟨h.map.del _,?_,?_,?_⟩
 ·intro j u hj z
  by_cases e:j=k
  ·rw [zN1 e] at hj;cases hj
  ·rw [zM1 e] at hj
   rw [atKey_del_other (fun h'=>e (inj _ _ h'))]
   exact h.at_ j u hj z
 ·intro j hj
  by_cases e:j=k
  ·subst e;exact has_del_same
  ·rw [zM1 e] at hj
   rw [has_del_other (fun h'=>e (inj _ _ h'))]
   exact h.none_ j hj
 ·intro l hl
  by_cases e:l=key k
  ·rw [e,has_del_same] at hl;cases hl
  ·rw [has_del_other e] at hl
   obtain ⟨j,u,rfl,hj⟩:=h.has_ l hl
   exact ⟨j,u,rfl,by rw [zM1 (fun h'=>e (by rw [h']))];exact hj⟩
theorem MapIs.congr {g:α→Option Value} (h:MapIs key D f) (e:∀ k,g k=f k):MapIs key D g:=by
 obtain rfl:g=f:=funext e
 exact h
end
def qKq (k:Nat):Lit:=.int .i64 k
def qLR (s:List UInt8):Lit:=.string s
theorem qOd (a b:Nat) (h:qKq a=qKq b):a=b:=by
 simp only [qKq,Lit.int.injEq,true_and] at h
 exact Int.ofNat.inj h
theorem qN4 (a b:List UInt8) (h:qLR a=qLR b):a=b:=by
 simpa [qLR] using h
end Stl
