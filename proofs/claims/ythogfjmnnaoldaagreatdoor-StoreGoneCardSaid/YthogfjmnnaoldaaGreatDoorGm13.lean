/- Texts of this claim, merged: StoPure, ClosPure. -/
import Derived.Test.YthogfjmnnaoldaaGreatDoorGm12
set_option maxHeartbeats 16000000
set_option maxRecDepth 1000000
set_option linter.all false
namespace Stl
def qB1:List Bytes→List Pk→Prop
 | _,[]=>True
 | ahead,p::r=>(∀ x∈p.refs,x=p.name∨x∈ahead)∧qB1 (p.name::ahead) r
structure qDc (l:List Pk):Prop where
 names:(l.map (·.name)).Nodup
 well:∀ p∈l,isName p.name=true
 rise:∀ p∈l,Rise p.refs
 few:∀ p∈l,p.refs.length≤20
 refs:qB1 [] l
 many:l.length≤40
structure qCo (s:Sto):Prop where
 dirs:qAD s.d
 ks:s.l.map (·.k)=s.d.l.map (·.k)
 pks:qDc s.l
 rise:Rise s.roots
 roots:∀ r∈s.roots,r∈s.l.map (·.name)
theorem qBQ:∀ (a b:List Pk) (out:List Bytes),qAi (a++b) out=qAi b (qAi a out)
 | [],b,out=>rfl
 | p::a,b,out=>by simp only [zF,qAi,qBQ a b]
theorem qCm:∀ (l:List Pk) (out:List Bytes),∀ x∈out,x∈qAi l out
 | [],_,x,h=>h
 | p::r,out,x,h=>by
  unfold qAi
  refine qCm r _ x ?_
  split
  ·exact (mem_insAll x _ _).2 (.inr h)
  ·exact h
theorem qDx:∀ (l:List Pk) (out:List Bytes),Rise out→Rise (qAi l out)
 | [],_,h=>h
 | p::r,out,h=>by
  unfold qAi
  refine qDx r _ ?_
  split
  ·exact rise_insAll _ _ h
  ·exact h
theorem qDn (l:List Pk) (names:List Bytes):Rise (closure l names):=qDx _ _ (rise_insAll _ _ rise_nil)
theorem qCG (l:List Pk) (names:List Bytes):∀ x∈names,x∈closure l names:=fun x h=>qCm _ _ x ((mem_insAll x _ _).2 (.inl h))
theorem qBw:∀ (a b:List Pk) (ahead:List Bytes),qB1 ahead (a++b)↔qB1 ahead a∧qB1 ((a.map (·.name)).reverse++ahead) b
 | [],b,ahead=>by simp [qB1]
 | p::a,b,ahead=>by simp only [zF,qB1,qBw a b,zX,List.reverse_cons,List.append_assoc,zF,zj,and_assoc]
theorem qDw:∀ (a:List Pk) (out:List Bytes) (x:Bytes),x∈qAi a out→x∈out∨∃ p∈a,x∈p.refs
 | [],_,x,h=>.inl h
 | p::r,out,x,h=>by
  unfold qAi at h
  rcases qDw r _ x h with h1 | ⟨q,hq,h1⟩
  ·split at h1
   ·rcases (mem_insAll x _ _).1 h1 with h2 | h2
    ·exact .inr ⟨p,by simp,h2⟩
    ·exact .inl h2
   ·exact .inl h1
  ·exact .inr ⟨q,by simp [hq],h1⟩
theorem qCj {l:List Pk} (hn:(l.map (·.name)).Nodup) (hr:qB1 [] l) (names:List Bytes):∀ p∈l,p.name∈closure l names→∀ x∈p.refs,x∈closure l names:=by
 intro p hp hpc x hx
 obtain ⟨a,b,e⟩:=List.append_of_mem hp
 subst e
 unfold closure at hpc ⊢
 rw [List.reverse_append,List.reverse_cons,List.append_assoc,qBQ] at hpc ⊢
 simp only [List.singleton_append] at hpc ⊢
 generalize qAi b.reverse (insAll names [])=out at hpc ⊢
 have hin:p.name∈out:=by
  simp only [qAi] at hpc
  by_cases hc:out.contains p.name=true
  ·simpa using hc
  ·rw [zM1 hc] at hpc
   rcases qDw _ _ _ hpc with h1 | ⟨q,hq,h1⟩
   ·exact h1
   ·exfalso
    have hqa:q∈a:=by simpa using hq
    have h2:=(qBw a (p::b) []).1 hr
    obtain ⟨a1,a2,e2⟩:=List.append_of_mem hqa
    rw [e2] at h2
    have h3:=((qBw a1 (q::a2) []).1 h2.1).2.1 p.name h1
    rw [zW,List.nodup_append] at hn
    have h4:=hn.2.2
    have hpa:p.name∈a.map (·.name):=by
     rcases h3 with h3 | h3
     ·rw [h3];exact zg (f:=(·.name)) hqa
     ·rw [e2]
      have:p.name∈a1.map (·.name):=by simpa using h3
      rw [zW]
      exact zZ.2 (.inl this)
    exact h4 p.name hpa p.name (by simp) rfl
 simp only [qAi]
 have hc:out.contains p.name=true:=by simpa using hin
 rw [zN1 hc]
 exact qCm _ _ x ((mem_insAll x _ _).2 (.inl hx))
theorem qC9:∀ (l:List Pk) (out:List Bytes) (S:Bytes→Prop),(∀ x∈out,S x)→(∀ p∈l,S p.name→∀ x∈p.refs,S x)→∀ x∈qAi l out,S x
 | [],_,_,h,_=>h
 | p::r,out,S,h,hc=>by
  unfold qAi
  refine qC9 r _ S ?_ (fun q hq=>hc q (by simp [hq]))
  split
  ·rename_i h1
   intro x hx
   rcases (mem_insAll x _ _).1 hx with h2 | h2
   ·exact hc p (by simp) (h p.name (by simpa using h1)) x h2
   ·exact h x h2
  ·exact h
theorem qCJ {l:List Pk} {names:List Bytes} (S:Bytes→Prop) (h:∀ x∈names,S x) (hc:∀ p∈l,S p.name→∀ x∈p.refs,S x):∀ x∈closure l names,S x :=
 qC9 _ _ S (fun x hx=>by
  rcases (mem_insAll x _ _).1 hx with h1 | h1
  ·exact h x h1
  ·cases h1) (fun p hp=>hc p (by simpa using hp))
theorem qEM:∀ (l:List Pk) (ahead:List Bytes),qB1 ahead l→∀ p∈l,∀ x∈p.refs,x∈l.map (·.name)∨x∈ahead
 | [],_,_,p,h=>by cases h
 | q::r,ahead,hr,p,h=>by
  intro x hx
  rcases za.1 h with rfl | h
  ·rcases hr.1 x hx with h1 | h1
   ·exact .inl (by simp [h1])
   ·exact .inr h1
  ·rcases qEM r _ hr.2 p h x hx with h1 | h1
   ·exact .inl (by simp at h1 ⊢;exact .inr h1)
   ·rcases za.1 h1 with h2 | h2
    ·exact .inl (by simp [h2])
    ·exact .inr h2
theorem qBH {l:List Pk} (hr:qB1 [] l) {names:List Bytes} (h:∀ x∈names,x∈l.map (·.name)):∀ x∈closure l names,x∈l.map (·.name) :=
 qCJ _ h (fun p hp _ x hx=>(qEM l [] hr p hp x hx).elim id (fun h=>by cases h))
theorem qD7:∀ (l:List Pk) (ahead:List Bytes) (S:Bytes→Bool),qB1 ahead l→(∀ p∈l,S p.name=true→∀ x∈p.refs,S x=true)→qB1 (ahead.filter S) (l.filter fun p=>S p.name)
 | [],_,_,_,_=>trivial
 | p::r,ahead,S,hr,hc=>by
  have ih:=qD7 r (p.name::ahead) S hr.2 (fun q hq=>hc q (by simp [hq]))
  rw [zJ]
  cases hp:S p.name
  ·rw [zJ,hp] at ih
   simpa using ih
  ·rw [zJ,hp] at ih
   simp only [if_true] at ih ⊢
   refine ⟨fun x hx=>?_,ih⟩
   rcases hr.1 x hx with h1 | h1
   ·exact .inl h1
   ·exact .inr (zb.2 ⟨h1,hc p (by simp) hp x hx⟩)
theorem qIw {l:List Pk} (h:qDc l) (S:Bytes→Bool) (hc:∀ p∈l,S p.name=true→∀ x∈p.refs,S x=true):qDc (l.filter fun p=>S p.name):=by
 have hs:(l.filter fun p=>S p.name).Sublist l:=List.filter_sublist
 refine ⟨(hs.map _).nodup h.names,fun p hp=>h.well p (hs.mem hp),fun p hp=>h.rise p (hs.mem hp),fun p hp=>h.few p (hs.mem hp),?_,zt hs.length_le h.many⟩
 have:=qD7 l [] S h.refs hc
 simpa using this
theorem qBZ {l:List Pk} {s:Bytes} {p:Pk} (h:(l.find? fun p=>p.name==s)=some p):p∈l∧p.name=s :=
 ⟨zh h,by simpa using List.find?_some h⟩
theorem qBX {l:List Pk} {s:Bytes}:(l.find? fun p=>p.name==s).isSome=true↔s∈l.map (·.name):=by
 rw [List.find?_isSome]
 constructor
 ·rintro ⟨p,hp,h⟩
  have:p.name=s:=by simpa using h
  rw [← this]
  exact zg (f:=(·.name)) hp
 ·intro h
  obtain ⟨p,hp,e⟩:=zf.1 h
  exact ⟨p,hp,by simp [e]⟩
theorem qAQ {α β:Type} (f:α→β):∀ {l:List α},(l.map f).Nodup→∀ {a b:α},a∈l→b∈l→f a=f b→a=b
 | [],_,a,_,h,_,_=>by cases h
 | x::r,hn,a,b,ha,hb,e=>by
  simp only [zX,List.nodup_cons] at hn
  rcases za.1 ha with ea | ha2<;>rcases za.1 hb with eb | hb2
  ·rw [ea,eb]
  ·exact absurd (by rw [← ea,e];exact zg hb2) hn.1
  ·exact absurd (by rw [← eb,← e];exact zg ha2) hn.1
  ·exact qAQ f hn.2 ha2 hb2 e
theorem qD8:∀ (dead:List Bytes) (d:Dirs) (l:List Pk),qAD d→l.map (·.k)=d.l.map (·.k)→(l.map (·.name)).Nodup→dead.Nodup→(∀ x∈dead,x∈l.map (·.name)) →
  qAD (qAq d l dead).1∧(qAq d l dead).2=l.filter (fun p=>!dead.contains p.name)∧(qAq d l dead).2.map (·.k)=(qAq d l dead).1.l.map (·.k)∧(qAq d l dead).1.next=d.next ∧
   (∀ p∈(qAq d l dead).2,(qAq d l dead).1.get p.k=d.get p.k)
 | [],d,l,hd,hk,hn,_,_=>by
  refine ⟨hd,?_,hk,rfl,fun _ _=>rfl⟩
  show l=l.filter _
  rw [List.filter_eq_self.2]
  intro p _;simp
 | nm::r,d,l,hd,hk,hn,hdn,hin=>by
  obtain ⟨hdn1,hdn2⟩:=List.nodup_cons.1 hdn
  obtain ⟨p,hp⟩:=zA1.1 (qBX.2 (hin nm (by simp)))
  obtain ⟨hpl,hpn⟩:=qBZ hp
  have hkm:p.k∈d.l.map (·.k):=by rw [← hk];exact zg (f:=(·.k)) hpl
  obtain ⟨e,hel,hek⟩:=zf.1 hkm
  have hent:=qAs hd.keys hel
  rw [hek] at hent
  have hdrop:∃ d1,d.drop p.k=.ok d1:=by unfold Dirs.drop;rw [hent];exact ⟨_,rfl⟩
  obtain ⟨d1,h1⟩:=hdrop
  obtain ⟨a1,a2,a3,a4⟩:=qJT hd h1
  have hkn:(l.map (·.k)).Nodup:=by
   rw [hk]
   have:(d.l.map (·.k)).Pairwise (·<·):=List.pairwise_map.2 hd.keys
   exact this.imp (fun h=>Nat.ne_of_lt h)
  have hsame:∀ q∈l,(q.name != nm)=(q.k != p.k):=by
   intro q hq
   by_cases hqp:q=p
   ·rw [hqp,hpn];simp
   ·have n1:q.name≠nm:=fun e=>hqp (qAQ (·.name) hn hq hpl (by rw [e,hpn]))
    have n2:q.k≠p.k:=fun e=>hqp (qAQ (·.k) hkn hq hpl e)
    rw [bne_iff_ne.2 n1,bne_iff_ne.2 n2]
  have hl1:(l.filter fun q=>q.name != nm)=l.filter fun q=>q.k != p.k:=List.filter_congr hsame
  have hk1:(l.filter fun q=>q.name != nm).map (·.k)=d1.l.map (·.k):=by
   rw [hl1,a3]
   have e1:(l.filter fun q=>q.k != p.k).map (·.k)=(l.map (·.k)).filter (fun x=>x != p.k):=by rw [List.filter_map];rfl
   have e2:(d.l.filter fun x=>x.k != p.k).map (·.k)=(d.l.map (·.k)).filter (fun x=>x != p.k):=by rw [List.filter_map];rfl
   rw [e1,e2,hk]
  have hn1:((l.filter fun q=>q.name != nm).map (·.name)).Nodup:=(List.filter_sublist.map _).nodup hn
  have hin1:∀ x∈r,x∈(l.filter fun q=>q.name != nm).map (·.name):=by
   intro x hx
   obtain ⟨q,hq,e⟩:=zf.1 (hin x (by simp [hx]))
   refine zf.2 ⟨q,zb.2 ⟨hq,?_⟩,e⟩
   have:x≠nm:=fun e2=>hdn1 (by rw [← e2];exact hx)
   simp [e,this]
  obtain ⟨b1,b2,b3,b4,b5⟩:=qD8 r d1 (l.filter fun q=>q.name != nm) a1 hk1 hn1 hdn2 hin1
  have es:qAq d l (nm::r)=qAq d1 (l.filter fun q=>q.name != nm) r:=by
   simp only [qAq,hp,h1]
  rw [es]
  refine ⟨b1,?_,b3,by rw [b4,a4],fun q hq=>?_⟩
  ·rw [b2,List.filter_filter]
   apply List.filter_congr
   intro q _
   by_cases e:q.name=nm<;>simp [e,List.contains_cons]
  ·rw [b5 q hq]
   rw [b2] at hq
   have hq1:=(zb.1 hq).1
   rw [hl1] at hq1
   have:=(zb.1 hq1).2
   exact a2 q.k (by simpa using this)
theorem qJb (n:Nd) (names:List Bytes):∀ x∈refsIn n names,x∈names:=by
 intro x hx
 unfold refsIn at hx
 rcases (mem_insAll x _ _).1 hx with h | h
 ·obtain ⟨y,_,hy⟩:=ze.1 h
  unfold found at hy
  rcases (mem_insAll x _ _).1 hy with h2 | h2
  ·have:=(zb.1 h2).2
   simp at this
   exact this.2
  ·cases h2
 ·cases h
theorem qJv (n:Nd) (names:List Bytes):Rise (refsIn n names):=rise_insAll _ _ rise_nil
theorem qL2 (blocks:Nat):qCo (Sto.new blocks):=by
 have hat:∀ n,(Sto.new blocks).d.t.at_ n=none:=fun n=>by simp [Sto.new,Tab.at_]
 refine ⟨⟨⟨?_,?_,?_,?_,?_,?_,?_⟩,?_,?_,?_,?_,?_,?_,?_⟩,rfl,⟨?_,?_,?_,?_,trivial,?_⟩,rise_nil,?_⟩
 ·intro b hb
  have hb':b∈List.replicate blocks (List.replicate 16 (0:UInt8)):=hb
  rw [(List.mem_replicate.1 hb').2];rfl
 all_goals first
  | (intro n x hx;rw [hat] at hx;cases hx)
  | (intro a b x y k hx;rw [hat] at hx;cases hx)
  | (intro e he;cases he)
  | (simp [Sto.new])
theorem qQs {s s':Sto} {rest:Bytes} (hs:qCo s) (h:s.add rest=.ok s'):qCo s':=by
 unfold Sto.add at h
 cases hc:cutAt 32 rest with
 | none=>rw [hc] at h;cases h
 | some q =>
  obtain ⟨name,text⟩:=q
  rw [hc] at h
  simp only at h
  split at h
  ·cases h
  ·rename_i h1
   split at h
   ·cases h
   ·rename_i h2
    split at h
    ·cases h
    ·rename_i h3
     cases hr:qBf text with
     | error e=>rw [hr] at h;cases h
     | ok n =>
      rw [hr] at h
      simp only at h
      split at h
      ·cases h
      ·rename_i h4
       cases hp:s.d.put n with
       | error e=>rw [hp] at h;cases h
       | ok q =>
        obtain ⟨k,d⟩:=q
        rw [hp] at h
        simp only at h
        injection h with h
        subst h
        obtain ⟨p1,p2,p3⟩:=qQP hs.dirs hp
        obtain ⟨_,_,ek,f,t,_,ed⟩:=qF3 hp
        have hnew:name∉s.l.map (·.name):=fun hm=>h2 (qBX.2 hm)
        refine ⟨p1,?_,⟨?_,?_,?_,?_,?_,?_⟩,hs.rise,fun r hr2=>?_⟩
        ·show (s.l++[_]).map _=_
         rw [zW,hs.ks,ed,ek]
         simp
        ·show ((s.l++[_]).map _).Nodup
         rw [zW,List.nodup_append]
         refine ⟨hs.pks.names,by simp,fun a ha b hb e=>?_⟩
         simp at hb
         rw [e,hb] at ha
         exact hnew ha
        ·intro p hp2
         rcases zZ.1 hp2 with hp2 | hp2
         ·exact hs.pks.well p hp2
         ·simp at hp2;subst hp2;simpa using h1
        ·intro p hp2
         rcases zZ.1 hp2 with hp2 | hp2
         ·exact hs.pks.rise p hp2
         ·simp at hp2;subst hp2;exact qJv _ _
        ·intro p hp2
         rcases zZ.1 hp2 with hp2 | hp2
         ·exact hs.pks.few p hp2
         ·simp at hp2;subst hp2;show (refsIn _ _).length≤20;omega
        ·show qB1 [] (s.l++[_])
         rw [qBw]
         refine ⟨hs.pks.refs,⟨fun x hx=>?_,trivial⟩⟩
         have:=qJb _ _ x hx
         simp at this ⊢
         rcases this with h5 | h5
         ·exact .inr h5
         ·exact .inl h5
        ·show (s.l++[_]).length≤40
         simp;omega
        ·have:=hs.roots r hr2
         show r∈(s.l++[_]).map _
         rw [zW]
         exact zZ.2 (.inl this)
theorem qCW {l:List Pk} (hn:(l.map (·.name)).Nodup) (roots:List Bytes):(qBg l roots).Nodup:=by
 unfold qBg
 have h1:(l.reverse.filter fun p=>!(closure l roots).contains p.name).Sublist l.reverse:=List.filter_sublist
 have h2:(l.reverse.map (·.name)).Nodup:=by rw [List.map_reverse];exact List.pairwise_reverse.2 (hn.imp Ne.symm)
 exact (h1.map _).nodup h2
theorem qCr {l:List Pk} {roots:List Bytes} {x:Bytes}:x∈qBg l roots↔x∈l.map (·.name)∧x∉closure l roots:=by
 unfold qBg
 constructor
 ·intro h
  obtain ⟨p,hp,e⟩:=zf.1 h
  obtain ⟨h1,h2⟩:=zb.1 hp
  subst e
  exact ⟨zg (f:=Pk.name) (List.mem_reverse.1 h1),by simpa using h2⟩
 ·rintro ⟨h1,h2⟩
  obtain ⟨p,hp,e⟩:=zf.1 h1
  subst e
  exact zf.2 ⟨p,zb.2 ⟨by simpa using hp,by simpa using h2⟩,rfl⟩
theorem qNM {s:Sto} (hs:qCo s):qCo s.gc.2∧s.gc.2.l=s.l.filter (fun p=>(closure s.l s.roots).contains p.name)∧s.gc.2.roots=s.roots∧s.gc.2.d.next=s.d.next ∧
  (∀ p∈s.gc.2.l,s.gc.2.d.get p.k=s.d.get p.k):=by
 have hsp:=qD8 (qBg s.l s.roots) s.d s.l hs.dirs hs.ks hs.pks.names (qCW hs.pks.names _) (fun x hx=>(qCr.1 hx).1)
 obtain ⟨b1,b2,b3,b4,b5⟩:=hsp
 have el:s.gc.2.l=s.l.filter (fun p=>(closure s.l s.roots).contains p.name):=by
  show (qAq s.d s.l (qBg s.l s.roots)).2=_
  rw [b2]
  apply List.filter_congr
  intro p hp
  have hpm:p.name∈s.l.map (·.name):=zg (f:=(·.name)) hp
  have h1:p.name∈qBg s.l s.roots↔¬ p.name∈closure s.l s.roots:=by
   rw [qCr]
   exact ⟨fun h=>h.2,fun h=>⟨hpm,h⟩⟩
  by_cases h2:p.name∈closure s.l s.roots
  ·have h3:¬ p.name∈qBg s.l s.roots:=fun h=>h1.1 h h2
   simp [h2,h3]
  ·have h3:p.name∈qBg s.l s.roots:=h1.2 h2
   simp [h2,h3]
 refine ⟨⟨b1,b3,?_,hs.rise,fun r hr=>?_⟩,el,rfl,b4,b5⟩
 ·show qDc s.gc.2.l
  rw [el]
  refine qIw hs.pks (fun x=>(closure s.l s.roots).contains x) fun p hp hc x hx=>?_
  rw [List.contains_iff_mem] at hc ⊢
  exact qCj hs.pks.names hs.pks.refs _ p hp hc x hx
 ·show r∈s.gc.2.l.map (·.name)
  rw [el]
  obtain ⟨p,hp,e⟩:=zf.1 (hs.roots r hr)
  refine zf.2 ⟨p,zb.2 ⟨hp,?_⟩,e⟩
  rw [List.contains_iff_mem,e]
  exact qCG _ _ r hr
theorem qQQ {s:Sto} (hs:qCo s):qCo { s with d:=s.d.mergeAll.2 }:=by
 obtain ⟨a1,a2,a3,a4,a5,a6⟩:=qG7 s.d.weight s.d hs.dirs (zr _)
 exact ⟨a1,by show _=(Dirs.merge _ _).2.l.map _;rw [a3];exact hs.ks,hs.pks,hs.rise,hs.roots⟩
theorem qMC {d:Dirs} (hd:qAD d) {disk:List Bytes} (h1:disk.length=d.t.disk.length) (h2:∀ b∈disk,b.length=16):qAD { d with t:={ d.t with disk:=disk } }:=by
 refine ⟨⟨h2,hd.tab.nodup,fun n x hx k hk=>?_,hd.tab.need,hd.tab.links,hd.tab.bytes,hd.tab.apart⟩,hd.keys,hd.next,hd.well,hd.bare,hd.files,hd.links,hd.there⟩
 show k<disk.length
 rw [h1]
 exact hd.tab.inside n x hx k hk
theorem qGj (s:Bytes) (bit:Nat):(turnBit s bit).length=s.length:=by simp [turnBit]
theorem qJc {s s':Sto} {line a:Bytes} (hs:qCo s) (h:s.change line=some (.ok (a,s'))):qCo s':=by
 unfold Sto.change at h
 split at h
 ·injection h with h;injection h with h;injection h with _ h;subst h;exact (qNM hs).1
 ·split at h
  ·injection h with h;injection h with h;injection h with _ h;subst h;exact qQQ hs
  ·cases hc:cutAt 32 line with
   | none=>rw [hc] at h;cases h
   | some q =>
    obtain ⟨word,rest⟩:=q
    rw [hc] at h
    simp only at h
    split at h
    ·cases ha:s.add rest with
     | error e=>rw [ha] at h;cases h
     | ok x=>rw [ha] at h;injection h with h;injection h with h;injection h with _ h;subst h;exact qQs hs ha
    ·split at h
     ·injection h with h
      split at h
      ·cases h
      ·rename_i h1
       split at h
       ·cases h
       ·injection h with h;injection h with _ h;subst h
        refine ⟨hs.dirs,hs.ks,hs.pks,qHu _ _ hs.rise,fun r hr=>?_⟩
        rcases (qG4 rest r s.roots).1 hr with h2 | h2
        ·subst h2
         refine qBX.1 ?_
         cases hf:s.find r with
         | none=>rw [hf] at h1;simp at h1
         | some p=>unfold Sto.find at hf;rw [hf];rfl
        ·exact hs.roots r h2
     ·split at h
      ·injection h with h
       split at h
       ·injection h with h;injection h with _ h;subst h
        exact ⟨hs.dirs,hs.ks,hs.pks,hs.rise.filter _,fun r hr=>hs.roots r (zb.1 hr).1⟩
       ·cases h
      ·split at h
       ·injection h with h
        split at h
        ·cases h
        ·split at h
         ·rename_i k bit _ _
          cases hr:s.d.t.rot k bit with
          | error e=>rw [hr] at h;cases h
          | ok t =>
           rw [hr] at h
           injection h with h;injection h with _ h;subst h
           unfold Tab.rot at hr
           split at hr
           ·cases hr
           ·injection hr with hr
            subst hr
            refine ⟨qMC hs.dirs (by simp) (fun b hb=>?_),hs.ks,hs.pks,hs.rise,hs.roots⟩
            rename_i hk
            rcases List.mem_or_eq_of_mem_set hb with h2 | h2
            ·exact hs.dirs.tab.whole b h2
            ·rw [h2,qGj]
             have hlt:k<s.d.t.disk.length:=by omega
             rw [List.getD_eq_getElem?_getD,zM hlt]
             exact hs.dirs.tab.whole _ (zP hlt)
         ·cases h
       ·split at h
        ·injection h with h
         split at h
         ·cases h
         ·split at h
          ·rename_i data _ n _
           cases hr:s.d.t.mend n _ with
           | error e=>rw [hr] at h;cases h
           | ok t =>
            rw [hr] at h
            injection h with h;injection h with _ h;subst h
            unfold Tab.mend at hr
            split at hr
            ·cases hr
            ·split at hr
             ·cases hr
             ·split at hr
              ·cases hr
              ·injection hr with hr
               subst hr
               exact ⟨qMC hs.dirs (qAJ _ _ _) (qC3 _ _ _ hs.dirs.tab.whole),hs.ks,hs.pks,hs.rise,hs.roots⟩
          ·cases h
        ·cases h
structure qP4 (l:List Pk) (names:List Bytes) (seen:Bytes→Bool) (todo:List Bytes):Prop where
 start:∀ x∈names,seen x=true∨x∈todo
 refs:∀ p∈l,seen p.name=true→∀ x∈p.refs,seen x=true∨x∈todo
 in_seen:∀ x,seen x=true→x∈closure l names
 in_todo:∀ x∈todo,x∈closure l names
def qDg (l:List Pk) (seen:Bytes→Bool):Nat:=(l.filter fun p=>!seen p.name).length
theorem qLl (l:List Pk) (names:List Bytes):qP4 l names (fun _=>false) names :=
 ⟨fun x hx=>.inr hx,fun p _ h=>(by cases h),fun x h=>(by cases h),fun x hx=>qCG l names x hx⟩
theorem qMb {l:List Pk} {names:List Bytes} {seen:Bytes→Bool} {s:Bytes} {r:List Bytes} (h:qP4 l names seen (s::r)) (hs:seen s=true):qP4 l names seen r:=by
 refine ⟨fun x hx=>?_,fun p hp h1 x hx=>?_,h.in_seen,fun x hx=>h.in_todo x (by simp [hx])⟩
 ·rcases h.start x hx with h1 | h1
  ·exact .inl h1
  ·rcases za.1 h1 with rfl | h1
   ·exact .inl hs
   ·exact .inr h1
 ·rcases h.refs p hp h1 x hx with h1 | h1
  ·exact .inl h1
  ·rcases za.1 h1 with rfl | h1
   ·exact .inl hs
   ·exact .inr h1
def qA2 (seen:Bytes→Bool) (s:Bytes):Bytes→Bool:=fun x=>seen x||x==s
theorem qOV {l:List Pk} (hP:qDc l) {names:List Bytes} {seen:Bytes→Bool} {s:Bytes} {r:List Bytes} (h:qP4 l names seen (s::r)) {p:Pk} (hp:p∈l) (hn:p.name=s):qP4 l names (qA2 seen s) (r++p.refs):=by
 have hs:s∈closure l names:=h.in_todo s (by simp)
 have put:∀ x,seen x=true∨x∈s::r→qA2 seen s x=true∨x∈r++p.refs:=by
  intro x hx
  rcases hx with h1 | h1
  ·exact .inl (by simp [qA2,h1])
  ·rcases za.1 h1 with rfl | h1
   ·exact .inl (by simp [qA2])
   ·exact .inr (List.mem_append_left _ h1)
 refine ⟨fun x hx=>put x (h.start x hx),fun q hq h1 x hx=>?_,fun x hx=>?_,fun x hx=>?_⟩
 ·simp only [qA2,Bool.or_eq_true,beq_iff_eq] at h1
  rcases h1 with h1 | h1
  ·exact put x (h.refs q hq h1 x hx)
  ·have:q=p:=qAQ (fun z:Pk=>z.name) hP.names hq hp (h1.trans hn.symm)
   subst this
   exact .inr (List.mem_append_right _ hx)
 ·simp only [qA2,Bool.or_eq_true,beq_iff_eq] at hx
  rcases hx with hx | rfl
  ·exact h.in_seen x hx
  ·exact hs
 ·rcases zZ.1 hx with hx | hx
  ·exact h.in_todo x (by simp [hx])
  ·exact qCj hP.names hP.refs names p hp (by rw [hn];exact hs) x hx
theorem qFv {l:List Pk} {seen:Bytes→Bool} {s:Bytes} {p:Pk} (hp:p∈l) (hn:p.name=s) (hs:seen s=false):qDg l (qA2 seen s)+1≤qDg l seen:=by
 unfold qDg
 have:∀ l:List Pk,p∈l→(l.filter fun p=>!qA2 seen s p.name).length+1≤(l.filter fun p=>!seen p.name).length:=by
  intro l
  induction l with
  | nil=>intro h;cases h
  | cons q r ih =>
   intro h
   have le:∀ r:List Pk,(r.filter fun p=>!qA2 seen s p.name).length≤(r.filter fun p=>!seen p.name).length:=by
    intro r
    induction r with
    | nil=>simp
    | cons a t iht =>
     by_cases h1:seen a.name=true
     ·simpa [zJ,qA2,h1] using iht
     ·by_cases h2:a.name=s
      ·simp [zJ,qA2,h1,h2]
       simp [qA2] at iht
       split<;>(try simp)<;>omega
      ·simp [zJ,qA2,h1,h2]
       simp [qA2] at iht
       omega
   by_cases hq:q.name=s
   ·have:=le r
    simp [zJ,qA2,hq,hs]
    simp [qA2] at this
    omega
   ·have hr:p∈r:=by
     rcases za.1 h with e | e
     ·exact absurd (by rw [← e];exact hn) hq
     ·exact e
    have:=ih hr
    by_cases h1:seen q.name=true
    ·simpa [zJ,qA2,h1] using this
    ·simp [zJ,qA2,h1,hq]
     simp [qA2] at this
     omega
 exact this l hp
theorem qOW {l:List Pk} {names:List Bytes} {seen:Bytes→Bool} (h:qP4 l names seen []) (x:Bytes):seen x=true↔x∈closure l names:=by
 constructor
 ·exact h.in_seen x
 ·refine qCJ (fun y=>seen y=true) (fun y hy=>?_) (fun p hp h1 y hy=>?_) x
  ·rcases h.start y hy with h1 | h1
   ·exact h1
   ·cases h1
  ·rcases h.refs p hp h1 y hy with h1 | h1
   ·exact h1
   ·cases h1
end Stl
