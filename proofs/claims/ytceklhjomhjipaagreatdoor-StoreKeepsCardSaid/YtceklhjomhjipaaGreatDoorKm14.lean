/- Texts of this claim, merged: StepPure, StoPure. -/
import Derived.Test.YtceklhjomhjipaaGreatDoorKm06
set_option maxHeartbeats 16000000
set_option maxRecDepth 1000000
set_option linter.all false
namespace Stl
theorem qDW {t:Tab} {n m:Nat} (h:t.lesser n=some m):m<n∧∃ s,t.read n=.ok s∧t.read m=.ok s∧(t.at_ m).map (·.exec)=(t.at_ n).map (·.exec):=by
 unfold Tab.lesser at h
 cases hr:t.read n with
 | error e=>rw [hr] at h;cases h
 | ok s =>
  rw [hr] at h
  simp only at h
  have h1:=List.find?_some h
  have h2:=zg h
  rw [List.mem_range] at h2
  refine ⟨h2,s,rfl,?_⟩
  cases hm:t.read m with
  | error e=>rw [hm] at h1;simp at h1
  | ok r =>
   rw [hm] at h1
   simp only [zC,beq_iff_eq] at h1
   exact ⟨by rw [h1.1],h1.2⟩
theorem qFD:∀ {t:Tab} {l:List Ent} {k:Nat} {s:Bytes} {was n:Nat},stepOf t l=some (k,s,was,n)→∃ e∈l,e.k=k∧(s,was)∈e.f∧t.lesser was=some n
 | t,[],_,_,_,_,h=>by cases h
 | t,e::r,k,s,was,n,h=>by
  unfold stepOf at h
  split at h
  ·rename_i x hx
   injection h with h
   subst h
   obtain ⟨p,hp,hq⟩:=List.exists_of_findSome?_eq_some hx
   cases hl:t.lesser p.2 with
   | none=>rw [hl] at hq;cases hq
   | some m =>
    rw [hl] at hq
    injection hq with hq
    injection hq with e1 hq
    injection hq with e2 hq
    injection hq with e3 e4
    exact ⟨e,by simp,e1,by rw [← e2,← e3];exact hp,by rw [← e3,hl,e4]⟩
  ·obtain ⟨a,ha,hb⟩:=qFD h
   exact ⟨a,by simp [ha],hb⟩
theorem qJT (f:List (Bytes×Nat)) (s:Bytes) (n:Nat):(qAp f s n).map (·.1)=f.map (·.1):=by
 unfold qAp
 rw [zW]
 apply List.map_congr_left
 intro p _
 simp only [Function.comp]
 split<;>rfl
theorem qBw:∀ (f:List (Bytes×Nat)) (s:Bytes) (n:Nat) (p:Bytes),qAI (qAp f s n) p=if p=s then (qAI f p).map (fun _=>n) else qAI f p
 | [],s,n,p=>by simp [qAp,qAI]
 | (a,m)::r,s,n,p=>by
  have ih:=qBw r s n p
  have e:qAp ((a,m)::r) s n=(if a=s then (a,n) else (a,m))::qAp r s n:=rfl
  rw [e]
  by_cases h1:a=s
  ·rw [zM1 h1,qBp,qBp,ih]
   by_cases h2:p=s
   ·rw [zM1 h2,zM1 h2,zM1 (h1.trans h2.symm),zM1 (h1.trans h2.symm)];rfl
   ·rw [zL1 h2,zL1 (fun e=>h2 (e.symm.trans h1)),zL1 h2,zL1 (fun e=>h2 (e.symm.trans h1))]
  ·rw [zL1 h1,qBp,qBp,ih]
   by_cases h2:a=p
   ·rw [zM1 h2,zM1 h2,zL1 (fun e=>h1 (h2.trans e))]
   ·rw [zL1 h2,zL1 h2]
theorem qC5:∀ (f:List (Bytes×Nat)) (s:Bytes) (n:Nat),s∉f.map (·.1)→qAp f s n=f
 | [],_,_,_=>rfl
 | (a,m)::r,s,n,h=>by
  simp only [zV,zY,not_or] at h
  have e:qAp ((a,m)::r) s n=(if a=s then (a,n) else (a,m))::qAp r s n:=rfl
  rw [e,zL1 (Ne.symm h.1),qC5 r s n h.2]
theorem qEi:∀ (f:List (Bytes×Nat)) (s:Bytes) (was n m:Nat),(f.map (·.1)).Nodup→(s,was)∈f →
  ((qAp f s n).map (·.2)).count m+(if m=was then 1 else 0)=(f.map (·.2)).count m+(if m=n then 1 else 0)
 | [],_,_,_,_,_,h=>by cases h
 | (a,b)::r,s,was,n,m,hn,h=>by
  simp only [zV,List.nodup_cons] at hn
  have e:qAp ((a,b)::r) s n=(if a=s then (a,n) else (a,b))::qAp r s n:=rfl
  rw [e]
  rcases zY.1 h with e2 | h
  ·injection e2 with e3 e4
   subst e3;subst e4
   rw [zM1 rfl,qC5 r s n hn.1]
   simp only [zV,List.count_cons,beq_iff_eq]
   have q1:(if m=was then 1 else 0)=(if was=m then 1 else 0):=by simp only [eq_comm]
   have q2:(if m=n then 1 else 0)=(if n=m then 1 else 0):=by simp only [eq_comm]
   omega
  ·have hne:a≠s:=fun e=>hn.1 (by rw [e];exact zf (f:=(·.1)) h)
   rw [zL1 hne]
   have ih:=qEi r s was n m hn.2 h
   simp only [zV,List.count_cons]
   omega
theorem qGo:∀ (f:List (Bytes×Nat)) (s:Bytes) (was n:Nat),(f.map (·.1)).Nodup→(s,was)∈f→((qAp f s n).map (·.2)).sum+was=(f.map (·.2)).sum+n
 | [],_,_,_,_,h=>by cases h
 | (a,b)::r,s,was,n,hn,h=>by
  simp only [zV,List.nodup_cons] at hn
  have e:qAp ((a,b)::r) s n=(if a=s then (a,n) else (a,b))::qAp r s n:=rfl
  rw [e]
  rcases zY.1 h with e2 | h
  ·injection e2 with e3 e4
   subst e3;subst e4
   rw [zM1 rfl,qC5 r s n hn.1]
   simp only [zV,List.sum_cons]
   omega
  ·have hne:a≠s:=fun e=>hn.1 (by rw [e];exact zf (f:=(·.1)) h)
   rw [zL1 hne]
   have ih:=qGo r s was n hn.2 h
   simp only [zV,List.sum_cons]
   omega
def qAM (l:List Ent) (k:Nat) (s:Bytes) (n:Nat):List Ent:=l.map fun e=>if e.k=k then { e with f:=qAp e.f s n } else e
theorem qF7 (l:List Ent) (k:Nat) (s:Bytes) (n:Nat) (h:∀ e∈l,e.k≠k):qAM l k s n=l:=by
 unfold qAM
 conv=>rhs;rw [← List.map_id l]
 apply List.map_congr_left
 intro e he
 rw [zL1 (h e he)]
 rfl
theorem qJt (l:List Ent) (k:Nat) (s:Bytes) (n:Nat):(qAM l k s n).map (·.k)=l.map (·.k):=by
 unfold qAM
 rw [zW]
 apply List.map_congr_left
 intro e _
 simp only [Function.comp]
 split<;>rfl
theorem qFq:∀ (l:List Ent) (s:Bytes) (was n m:Nat) (e:Ent),l.Pairwise (fun a b=>a.k<b.k)→e∈l→(e.f.map (·.1)).Nodup→(s,was)∈e.f →
  (nums (qAM l e.k s n)).count m+(if m=was then 1 else 0)=(nums l).count m+(if m=n then 1 else 0)
 | [],_,_,_,_,_,_,h,_,_=>by cases h
 | x::r,s,was,n,m,e,hk,he,hn,hf=>by
  obtain ⟨p1,p2⟩:=zj.1 hk
  have e0:qAM (x::r) e.k s n=(if x.k=e.k then { x with f:=qAp x.f s n } else x)::qAM r e.k s n:=rfl
  have e1:∀ (a:Ent) (b:List Ent),nums (a::b)=a.f.map (·.2)++nums b:=fun a b=>by simp [nums]
  rw [e0,e1,e1,List.count_append,List.count_append]
  rcases zY.1 he with rfl | he
  ·rw [zM1 rfl,qF7 r e.k s n (fun y hy=>Nat.ne_of_gt (p1 y hy))]
   have:=qEi e.f s was n m hn hf
   show ((qAp e.f s n).map (·.2)).count m+_+_=_
   omega
  ·have hne:x.k≠e.k:=Nat.ne_of_lt (p1 e he)
   rw [zL1 hne]
   have ih:=qFq r s was n m e p2 he hn hf
   omega
theorem qGJ:∀ (l:List Ent) (s:Bytes) (was n:Nat) (e:Ent),l.Pairwise (fun a b=>a.k<b.k)→e∈l→(e.f.map (·.1)).Nodup→(s,was)∈e.f →
  ((qAM l e.k s n).map fun e=>(e.f.map (·.2)).sum).sum+was=(l.map fun e=>(e.f.map (·.2)).sum).sum+n
 | [],_,_,_,_,_,h,_,_=>by cases h
 | x::r,s,was,n,e,hk,he,hn,hf=>by
  obtain ⟨p1,p2⟩:=zj.1 hk
  have e0:qAM (x::r) e.k s n=(if x.k=e.k then { x with f:=qAp x.f s n } else x)::qAM r e.k s n:=rfl
  rw [e0]
  simp only [zV,List.sum_cons]
  rcases zY.1 he with rfl | he
  ·rw [zM1 rfl,qF7 r e.k s n (fun y hy=>Nat.ne_of_gt (p1 y hy))]
   have:=qGo e.f s was n hn hf
   show ((qAp e.f s n).map (·.2)).sum+_+_=_
   omega
  ·have hne:x.k≠e.k:=Nat.ne_of_lt (p1 e he)
   rw [zL1 hne]
   have ih:=qGJ r s was n e p2 he hn hf
   omega
theorem qG7 {d d':Dirs} (hd:qAN d) (h:d.step=some d'):∃ e∈d.l,∃ s was n t1 t2,stepOf d.t d.l=some (e.k,s,was,n)∧(s,was)∈e.f∧d.t.lesser was=some n∧d.t.link n=.ok t1∧t1.unlink was=.ok t2 ∧
  d'={ d with t:=t2,l:=qAM d.l e.k s n }:=by
 unfold Dirs.step at h
 cases hs:stepOf d.t d.l with
 | none=>rw [hs] at h;cases h
 | some q =>
  obtain ⟨k,s,was,n⟩:=q
  obtain ⟨e,he,rfl,hf,hl⟩:=qFD hs
  obtain ⟨hlt,b,hr1,hr2,hx⟩:=qDW hl
  have hwas:(d.t.at_ was).isSome:=hd.there was (zb.2 ⟨e,he,zf (f:=(·.2)) hf⟩)
  obtain ⟨y,hy⟩:=zz.1 hwas
  have hn:∃ z,d.t.at_ n=some z:=by
   cases hz:d.t.at_ n with
   | none=>rw [hz,hy] at hx;cases hx
   | some z=>exact ⟨z,rfl⟩
  obtain ⟨z,hz⟩:=hn
  obtain ⟨t1,h1⟩:=qLW hz
  have hy1:t1.at_ was=some y:=by rw [qEW hz h1,zL1 (by omega)];exact hy
  obtain ⟨t2,h2⟩:=qFg hy1
  rw [hs] at h
  simp only [h1,h2] at h
  injection h with h
  exact ⟨e,he,s,was,n,t1,t2,rfl,hf,hl,h1,h2,h.symm⟩
theorem step_ok {d d':Dirs} (hd:qAN d) (h:d.step=some d') :
  qAN d'∧(∀ j,d'.get j=d.get j)∧d'.l.map (·.k)=d.l.map (·.k)∧d'.next=d.next∧d'.weight<d.weight:=by
 obtain ⟨e,he,s,was,n,t1,t2,hs,hf,hl,h1,h2,rfl⟩:=qG7 hd h
 obtain ⟨hlt,b,hr1,hr2,hx⟩:=qDW hl
 have hfn:(e.f.map (·.1)).Nodup:=by rw [hd.files e he];exact qBU _
 have hwn:was∈nums d.l:=zb.2 ⟨e,he,zf (f:=(·.2)) hf⟩
 obtain ⟨y,hy⟩:=zz.1 (hd.there was hwn)
 obtain ⟨z,hz,_⟩:=qCr h1
 have hy1:t1.at_ was=some y:=by rw [qEW hz h1,zL1 (by omega)];exact hy
 have ha1:=qEW hz h1
 have ha2:=qEq hy1 h2
 have hcnt:=fun m=>qFq d.l s was n m e hd.keys he hfn hf
 have hcw:=List.count_pos_iff.2 hwn
 have hyl:=hd.links was y hy
 have hkeys:=qJt d.l e.k s n
 have hmem:∀ a∈qAM d.l e.k s n,∃ x∈d.l,a.k=x.k∧a.n=x.n∧a.f.map (·.1)=x.f.map (·.1):=by
  intro a ha
  unfold qAM at ha
  obtain ⟨x,hx2,rfl⟩:=ze.1 ha
  refine ⟨x,hx2,?_⟩
  split
  ·exact ⟨rfl,rfl,qJT _ _ _⟩
  ·exact ⟨rfl,rfl,rfl⟩
 have hth:∀ m∈nums (qAM d.l e.k s n),(t2.at_ m).isSome:=by
  intro m hm
  have hc:=List.count_pos_iff.2 hm
  have hcm:=hcnt m
  rw [ha2]
  split
  ·rename_i em
   subst em
   rw [zM1 rfl,zL1 (by omega)] at hcm
   rw [zL1 (by omega)]
   rfl
  ·rename_i em
   rw [zL1 em] at hcm
   rw [ha1]
   split
   ·rfl
   ·rename_i em2
    rw [zL1 em2] at hcm
    exact hd.there m (List.count_pos_iff.1 (by omega))
 have hread:∀ m,(t2.at_ m).isSome→t2.read m=d.t.read m:=fun m hm=>by rw [qF3 h2 hm,qM3 h1]
 have hok:qAN { d with t:=t2,l:=qAM d.l e.k s n }:=by
  constructor
  ·exact qIQ (qMj hd.tab h1) h2
  ·have:=List.pairwise_map.2 hd.keys
   rw [← hkeys] at this
   exact List.pairwise_map.1 this
  ·intro a ha;obtain ⟨x,hx2,e1,_,_⟩:=hmem a ha;rw [e1];exact hd.next x hx2
  ·intro a ha;obtain ⟨x,hx2,_,e2,_⟩:=hmem a ha;rw [e2];exact hd.well x hx2
  ·intro a ha;obtain ⟨x,hx2,_,e2,_⟩:=hmem a ha;rw [e2];exact hd.bare x hx2
  ·intro a ha;obtain ⟨x,hx2,_,e2,e3⟩:=hmem a ha;rw [e3,e2];exact hd.files x hx2
  ·intro m x hx2
   have hx3:t2.at_ m=some x:=hx2
   rw [ha2] at hx3
   have hcm:=hcnt m
   show x.links=(nums (qAM d.l e.k s n)).count m
   split at hx3
   ·rename_i em
    subst em
    split at hx3
    ·cases hx3
    ·injection hx3 with hx3
     subst hx3
     rw [zM1 rfl,zL1 (by omega)] at hcm
     show y.links-1=_
     omega
   ·rename_i em
    rw [zL1 em] at hcm
    rw [ha1] at hx3
    split at hx3
    ·rename_i em2
     injection hx3 with hx3
     subst hx3
     subst em2
     rw [zM1 rfl] at hcm
     have:=hd.links m z hz
     show z.links+1=_
     omega
    ·rename_i em2
     rw [zL1 em2] at hcm
     have:=hd.links m x hx3
     omega
  ·exact hth
 refine ⟨hok,?_,hkeys,rfl,?_⟩
 ·intro j
  have hent:qAi (qAM d.l e.k s n) j=(qAi d.l j).map fun a=>if a.k=e.k then { a with f:=qAp a.f s n } else a:=by
   unfold qAi qAM
   rw [List.find?_map]
   congr 1
   congr 1
   funext a
   simp only [Function.comp]
   split<;>rfl
  cases hj:qAi d.l j with
  | none=>unfold Dirs.get;simp only [hent,hj];rfl
  | some a =>
   rw [hj,zA1] at hent
   obtain ⟨hal,rfl⟩:=qA5 hj
   by_cases hae:a.k=e.k
   ·have:a=e:=by
     have q1:=qAt hd.keys hal
     have q2:=qAt hd.keys he
     rw [hae,q2] at q1
     injection q1 with q1
     exact q1.symm
    subst this
    rw [zM1 rfl] at hent
    refine get_congr hj hent rfl fun x hx2 hk=>?_
    obtain ⟨m,hm1,hm2,hm3⟩:=qHK hd hal hx2 hk
    rw [hm1]
    show t2.read ((qAI (qAp a.f s n) (told x.path)).getD 0)=_
    rw [qBw]
    by_cases hps:told x.path=s
    ·have hmw:m=was:=by
      have:=qBr hfn hf
      rw [← hps,hm1] at this
      injection this
     rw [zM1 hps,hm1]
     simp only [zA1,zy]
     rw [hmw,hr1,hread n,hr2]
     rw [ha2,zL1 (by omega),ha1,zM1 rfl];rfl
    ·rw [zL1 hps,hm1]
     have hm4:m∈nums (qAM d.l a.k s n):=by
      refine zb.2 ⟨{ a with f:=qAp a.f s n },?_,?_⟩
      ·unfold qAM
       exact ze.2 ⟨a,hal,by rw [zM1 rfl]⟩
      ·have h5:qAI (qAp a.f s n) (told x.path)=some m:=by rw [qBw,zL1 hps,hm1]
       unfold qAI at h5
       cases hfd:(qAp a.f s n).find? (fun p=>p.1==told x.path) with
       | none=>rw [hfd] at h5;cases h5
       | some p =>
        rw [hfd] at h5
        injection h5 with h5
        rw [← h5]
        exact zf (f:=(·.2)) (zg hfd)
     exact hread m (hth m hm4)
   ·rw [zL1 hae] at hent
    refine get_congr hj hent rfl fun x hx2 hk=>?_
    obtain ⟨m,hm1,hm2,hm3⟩:=qHK hd hal hx2 hk
    rw [hm1]
    refine hread m (hth m (zb.2 ⟨a,?_,hm2⟩))
    unfold qAM
    exact ze.2 ⟨a,hal,by rw [zL1 hae]⟩
 ·have:=qGJ d.l s was n e hd.keys he hfn hf
  unfold Dirs.weight
  show ((qAM d.l e.k s n).map _).sum<_
  omega
theorem qHt:∀ (f:Nat) (d:Dirs),qAN d→d.weight≤f→qAN (Dirs.merge f d).2∧(∀ j,(Dirs.merge f d).2.get j=d.get j)∧(Dirs.merge f d).2.l.map (·.k)=d.l.map (·.k)∧(Dirs.merge f d).2.next=d.next∧(Dirs.merge f d).2.step=none∧(Dirs.merge f d).1≤d.weight
 | 0,d,hd,hw=>by
  have:d.step=none:=by
   cases hs:d.step with
   | none=>rfl
   | some d1=>have:=(step_ok hd hs).2.2.2.2;omega
  exact ⟨hd,fun _=>rfl,rfl,rfl,this,by simp [Dirs.merge]⟩
 | f+1,d,hd,hw=>by
  unfold Dirs.merge
  cases hs:d.step with
  | none=>exact ⟨hd,fun _=>rfl,rfl,rfl,hs,by simp⟩
  | some d1 =>
   obtain ⟨a1,a2,a3,a4,a5⟩:=step_ok hd hs
   obtain ⟨b1,b2,b3,b4,b5,b6⟩:=qHt f d1 a1 (by omega)
   exact ⟨b1,fun j=>by rw [b2,a2],by rw [b3,a3],by rw [b4,a4],b5,by simp only;omega⟩
def qB6:List Bytes→List Pk→Prop
 | _,[]=>True
 | ahead,p::r=>(∀ x∈p.refs,x=p.name∨x∈ahead)∧qB6 (p.name::ahead) r
structure qEJ (l:List Pk):Prop where
 names:(l.map (·.name)).Nodup
 well:∀ p∈l,isName p.name=true
 rise:∀ p∈l,Rise p.refs
 few:∀ p∈l,p.refs.length≤20
 refs:qB6 [] l
 many:l.length≤40
structure qDY (s:Sto):Prop where
 dirs:qAN s.d
 ks:s.l.map (·.k)=s.d.l.map (·.k)
 pks:qEJ s.l
 rise:Rise s.roots
 roots:∀ r∈s.roots,r∈s.l.map (·.name)
theorem qCR:∀ (a b:List Pk) (out:List Bytes),qAD (a++b) out=qAD b (qAD a out)
 | [],b,out=>rfl
 | p::a,b,out=>by simp only [zE,qAD,qCR a b]
theorem qCg:∀ (l:List Pk) (out:List Bytes),∀ x∈out,x∈qAD l out
 | [],_,x,h=>h
 | p::r,out,x,h=>by
  unfold qAD
  refine qCg r _ x ?_
  split
  ·exact (mem_insAll x _ _).2 (.inr h)
  ·exact h
theorem qDF:∀ (l:List Pk) (out:List Bytes),Rise out→Rise (qAD l out)
 | [],_,h=>h
 | p::r,out,h=>by
  unfold qAD
  refine qDF r _ ?_
  split
  ·exact rise_insAll _ _ h
  ·exact h
theorem qFo (l:List Pk) (names:List Bytes):Rise (closure l names):=qDF _ _ (rise_insAll _ _ rise_nil)
theorem qEx (l:List Pk) (names:List Bytes):∀ x∈names,x∈closure l names:=fun x h=>qCg _ _ x ((mem_insAll x _ _).2 (.inl h))
theorem qBy:∀ (a b:List Pk) (ahead:List Bytes),qB6 ahead (a++b)↔qB6 ahead a∧qB6 ((a.map (·.name)).reverse++ahead) b
 | [],b,ahead=>by simp [qB6]
 | p::a,b,ahead=>by simp only [zE,qB6,qBy a b,zV,List.reverse_cons,List.append_assoc,zE,zi,and_assoc]
theorem qDK:∀ (a:List Pk) (out:List Bytes) (x:Bytes),x∈qAD a out→x∈out∨∃ p∈a,x∈p.refs
 | [],_,x,h=>.inl h
 | p::r,out,x,h=>by
  unfold qAD at h
  rcases qDK r _ x h with h1 | ⟨q,hq,h1⟩
  ·split at h1
   ·rcases (mem_insAll x _ _).1 h1 with h2 | h2
    ·exact .inr ⟨p,by simp,h2⟩
    ·exact .inl h2
   ·exact .inl h1
  ·exact .inr ⟨q,by simp [hq],h1⟩
theorem qDH {l:List Pk} (hn:(l.map (·.name)).Nodup) (hr:qB6 [] l) (names:List Bytes):∀ p∈l,p.name∈closure l names→∀ x∈p.refs,x∈closure l names:=by
 intro p hp hpc x hx
 obtain ⟨a,b,e⟩:=List.append_of_mem hp
 subst e
 unfold closure at hpc ⊢
 rw [List.reverse_append,List.reverse_cons,List.append_assoc,qCR] at hpc ⊢
 simp only [List.singleton_append] at hpc ⊢
 generalize qAD b.reverse (insAll names [])=out at hpc ⊢
 have hin:p.name∈out:=by
  simp only [qAD] at hpc
  by_cases hc:out.contains p.name=true
  ·simpa using hc
  ·rw [zL1 hc] at hpc
   rcases qDK _ _ _ hpc with h1 | ⟨q,hq,h1⟩
   ·exact h1
   ·exfalso
    have hqa:q∈a:=by simpa using hq
    have h2:=(qBy a (p::b) []).1 hr
    obtain ⟨a1,a2,e2⟩:=List.append_of_mem hqa
    rw [e2] at h2
    have h3:=((qBy a1 (q::a2) []).1 h2.1).2.1 p.name h1
    rw [zU,List.nodup_append] at hn
    have h4:=hn.2.2
    have hpa:p.name∈a.map (·.name):=by
     rcases h3 with h3 | h3
     ·rw [h3];exact zf (f:=(·.name)) hqa
     ·rw [e2]
      have:p.name∈a1.map (·.name):=by simpa using h3
      rw [zU]
      exact zX.2 (.inl this)
    exact h4 p.name hpa p.name (by simp) rfl
 simp only [qAD]
 have hc:out.contains p.name=true:=by simpa using hin
 rw [zM1 hc]
 exact qCg _ _ x ((mem_insAll x _ _).2 (.inl hx))
theorem qDj:∀ (l:List Pk) (out:List Bytes) (S:Bytes→Prop),(∀ x∈out,S x)→(∀ p∈l,S p.name→∀ x∈p.refs,S x)→∀ x∈qAD l out,S x
 | [],_,_,h,_=>h
 | p::r,out,S,h,hc=>by
  unfold qAD
  refine qDj r _ S ?_ (fun q hq=>hc q (by simp [hq]))
  split
  ·rename_i h1
   intro x hx
   rcases (mem_insAll x _ _).1 hx with h2 | h2
   ·exact hc p (by simp) (h p.name (by simpa using h1)) x h2
   ·exact h x h2
  ·exact h
theorem qEt {l:List Pk} {names:List Bytes} (S:Bytes→Prop) (h:∀ x∈names,S x) (hc:∀ p∈l,S p.name→∀ x∈p.refs,S x):∀ x∈closure l names,S x :=
 qDj _ _ S (fun x hx=>by
  rcases (mem_insAll x _ _).1 hx with h1 | h1
  ·exact h x h1
  ·cases h1) (fun p hp=>hc p (by simpa using hp))
theorem qEV:∀ (l:List Pk) (ahead:List Bytes),qB6 ahead l→∀ p∈l,∀ x∈p.refs,x∈l.map (·.name)∨x∈ahead
 | [],_,_,p,h=>by cases h
 | q::r,ahead,hr,p,h=>by
  intro x hx
  rcases zY.1 h with rfl | h
  ·rcases hr.1 x hx with h1 | h1
   ·exact .inl (by simp [h1])
   ·exact .inr h1
  ·rcases qEV r _ hr.2 p h x hx with h1 | h1
   ·exact .inl (by simp at h1 ⊢;exact .inr h1)
   ·rcases zY.1 h1 with h2 | h2
    ·exact .inl (by simp [h2])
    ·exact .inr h2
theorem qDA {l:List Pk} (hr:qB6 [] l) {names:List Bytes} (h:∀ x∈names,x∈l.map (·.name)):∀ x∈closure l names,x∈l.map (·.name) :=
 qEt _ h (fun p hp _ x hx=>(qEV l [] hr p hp x hx).elim id (fun h=>by cases h))
theorem qEb:∀ (l:List Pk) (ahead:List Bytes) (S:Bytes→Bool),qB6 ahead l→(∀ p∈l,S p.name=true→∀ x∈p.refs,S x=true)→qB6 (ahead.filter S) (l.filter fun p=>S p.name)
 | [],_,_,_,_=>trivial
 | p::r,ahead,S,hr,hc=>by
  have ih:=qEb r (p.name::ahead) S hr.2 (fun q hq=>hc q (by simp [hq]))
  rw [zI]
  cases hp:S p.name
  ·rw [zI,hp] at ih
   simpa using ih
  ·rw [zI,hp] at ih
   simp only [if_true] at ih ⊢
   refine ⟨fun x hx=>?_,ih⟩
   rcases hr.1 x hx with h1 | h1
   ·exact .inl h1
   ·exact .inr (zZ.2 ⟨h1,hc p (by simp) hp x hx⟩)
theorem qIe {l:List Pk} (h:qEJ l) (S:Bytes→Bool) (hc:∀ p∈l,S p.name=true→∀ x∈p.refs,S x=true):qEJ (l.filter fun p=>S p.name):=by
 have hs:(l.filter fun p=>S p.name).Sublist l:=List.filter_sublist
 refine ⟨(hs.map _).nodup h.names,fun p hp=>h.well p (hs.mem hp),fun p hp=>h.rise p (hs.mem hp),fun p hp=>h.few p (hs.mem hp),?_,zr hs.length_le h.many⟩
 have:=qEb l [] S h.refs hc
 simpa using this
theorem qCs {l:List Pk} {s:Bytes} {p:Pk} (h:(l.find? fun p=>p.name==s)=some p):p∈l∧p.name=s :=
 ⟨zg h,by simpa using List.find?_some h⟩
theorem qCC {l:List Pk} {s:Bytes}:(l.find? fun p=>p.name==s).isSome=true↔s∈l.map (·.name):=by
 rw [List.find?_isSome]
 constructor
 ·rintro ⟨p,hp,h⟩
  have:p.name=s:=by simpa using h
  rw [← this]
  exact zf (f:=(·.name)) hp
 ·intro h
  obtain ⟨p,hp,e⟩:=ze.1 h
  exact ⟨p,hp,by simp [e]⟩
theorem qA8 {α β:Type} (f:α→β):∀ {l:List α},(l.map f).Nodup→∀ {a b:α},a∈l→b∈l→f a=f b→a=b
 | [],_,a,_,h,_,_=>by cases h
 | x::r,hn,a,b,ha,hb,e=>by
  simp only [zV,List.nodup_cons] at hn
  rcases zY.1 ha with ea | ha2<;>rcases zY.1 hb with eb | hb2
  ·rw [ea,eb]
  ·exact absurd (by rw [← ea,e];exact zf hb2) hn.1
  ·exact absurd (by rw [← eb,← e];exact zf ha2) hn.1
  ·exact qA8 f hn.2 ha2 hb2 e
theorem qEg:∀ (dead:List Bytes) (d:Dirs) (l:List Pk),qAN d→l.map (·.k)=d.l.map (·.k)→(l.map (·.name)).Nodup→dead.Nodup→(∀ x∈dead,x∈l.map (·.name)) →
  qAN (qAw d l dead).1∧(qAw d l dead).2=l.filter (fun p=>!dead.contains p.name)∧(qAw d l dead).2.map (·.k)=(qAw d l dead).1.l.map (·.k)∧(qAw d l dead).1.next=d.next ∧
   (∀ p∈(qAw d l dead).2,(qAw d l dead).1.get p.k=d.get p.k)
 | [],d,l,hd,hk,hn,_,_=>by
  refine ⟨hd,?_,hk,rfl,fun _ _=>rfl⟩
  show l=l.filter _
  rw [List.filter_eq_self.2]
  intro p _;simp
 | nm::r,d,l,hd,hk,hn,hdn,hin=>by
  obtain ⟨hdn1,hdn2⟩:=List.nodup_cons.1 hdn
  obtain ⟨p,hp⟩:=zz.1 (qCC.2 (hin nm (by simp)))
  obtain ⟨hpl,hpn⟩:=qCs hp
  have hkm:p.k∈d.l.map (·.k):=by rw [← hk];exact zf (f:=(·.k)) hpl
  obtain ⟨e,hel,hek⟩:=ze.1 hkm
  have hent:=qAt hd.keys hel
  rw [hek] at hent
  have hdrop:∃ d1,d.drop p.k=.ok d1:=by unfold Dirs.drop;rw [hent];exact ⟨_,rfl⟩
  obtain ⟨d1,h1⟩:=hdrop
  obtain ⟨a1,a2,a3,a4⟩:=qJM hd h1
  have hkn:(l.map (·.k)).Nodup:=by
   rw [hk]
   have:(d.l.map (·.k)).Pairwise (·<·):=List.pairwise_map.2 hd.keys
   exact this.imp (fun h=>Nat.ne_of_lt h)
  have hsame:∀ q∈l,(q.name != nm)=(q.k != p.k):=by
   intro q hq
   by_cases hqp:q=p
   ·rw [hqp,hpn];simp
   ·have n1:q.name≠nm:=fun e=>hqp (qA8 (·.name) hn hq hpl (by rw [e,hpn]))
    have n2:q.k≠p.k:=fun e=>hqp (qA8 (·.k) hkn hq hpl e)
    rw [bne_iff_ne.2 n1,bne_iff_ne.2 n2]
  have hl1:(l.filter fun q=>q.name != nm)=l.filter fun q=>q.k != p.k:=List.filter_congr hsame
  have hk1:(l.filter fun q=>q.name != nm).map (·.k)=d1.l.map (·.k):=by
   rw [hl1,a3]
   have e1:(l.filter fun q=>q.k != p.k).map (·.k)=(l.map (·.k)).filter (fun x=>x != p.k):=by rw [List.filter_map];rfl
   have e2:(d.l.filter fun x=>x.k != p.k).map (·.k)=(d.l.map (·.k)).filter (fun x=>x != p.k):=by rw [List.filter_map];rfl
   rw [e1,e2,hk]
  have hn1:((l.filter fun q=>q.name != nm).map (·.name)).Nodup:=(List.filter_sublist.map _).nodup hn
  have hin1:∀ x∈r,x∈(l.filter fun q=>q.name != nm).map (·.name):=by
   intro x hx
   obtain ⟨q,hq,e⟩:=ze.1 (hin x (by simp [hx]))
   refine ze.2 ⟨q,zZ.2 ⟨hq,?_⟩,e⟩
   have:x≠nm:=fun e2=>hdn1 (by rw [← e2];exact hx)
   simp [e,this]
  obtain ⟨b1,b2,b3,b4,b5⟩:=qEg r d1 (l.filter fun q=>q.name != nm) a1 hk1 hn1 hdn2 hin1
  have es:qAw d l (nm::r)=qAw d1 (l.filter fun q=>q.name != nm) r:=by
   simp only [qAw,hp,h1]
  rw [es]
  refine ⟨b1,?_,b3,by rw [b4,a4],fun q hq=>?_⟩
  ·rw [b2,List.filter_filter]
   apply List.filter_congr
   intro q _
   by_cases e:q.name=nm<;>simp [e,List.contains_cons]
  ·rw [b5 q hq]
   rw [b2] at hq
   have hq1:=(zZ.1 hq).1
   rw [hl1] at hq1
   have:=(zZ.1 hq1).2
   exact a2 q.k (by simpa using this)
theorem qJm (n:Nd) (names:List Bytes):∀ x∈refsIn n names,x∈names:=by
 intro x hx
 unfold refsIn at hx
 rcases (mem_insAll x _ _).1 hx with h | h
 ·obtain ⟨y,_,hy⟩:=zb.1 h
  unfold found at hy
  rcases (mem_insAll x _ _).1 hy with h2 | h2
  ·have:=(zZ.1 h2).2
   simp at this
   exact this.2
  ·cases h2
 ·cases h
theorem qJY (n:Nd) (names:List Bytes):Rise (refsIn n names):=rise_insAll _ _ rise_nil
theorem qPV (blocks:Nat):qDY (Sto.new blocks):=by
 have hat:∀ n,(Sto.new blocks).d.t.at_ n=none:=fun n=>by simp [Sto.new,Tab.at_]
 refine ⟨⟨⟨?_,?_,?_,?_,?_,?_,?_⟩,?_,?_,?_,?_,?_,?_,?_⟩,rfl,⟨?_,?_,?_,?_,trivial,?_⟩,rise_nil,?_⟩
 ·intro b hb
  have hb':b∈List.replicate blocks (List.replicate 16 (0:UInt8)):=hb
  rw [(List.mem_replicate.1 hb').2];rfl
 all_goals first
  | (intro n x hx;rw [hat] at hx;cases hx)
  | (intro a b x y k hx;rw [hat] at hx;cases hx)
  | (intro e he;cases he)
  | (simp [Sto.new])
theorem qRd {s s':Sto} {rest:Bytes} (hs:qDY s) (h:s.add rest=.ok s'):qDY s':=by
 unfold Sto.add at h
 cases hc:cutAt 32 rest with
 | none=>rw [hc] at h;cases h
 | some q =>
  obtain ⟨name,text⟩:=q
  rw [hc] at h
  simp only at h
  split at h
  ·cases h
  ·rename_i h1
   split at h
   ·cases h
   ·rename_i h2
    split at h
    ·cases h
    ·rename_i h3
     cases hr:qBe text with
     | error e=>rw [hr] at h;cases h
     | ok n =>
      rw [hr] at h
      simp only at h
      split at h
      ·cases h
      ·rename_i h4
       cases hp:s.d.put n with
       | error e=>rw [hp] at h;cases h
       | ok q =>
        obtain ⟨k,d⟩:=q
        rw [hp] at h
        simp only at h
        injection h with h
        subst h
        obtain ⟨p1,p2,p3⟩:=qQ7 hs.dirs hp
        obtain ⟨_,_,ek,f,t,_,ed⟩:=qJa hp
        have hnew:name∉s.l.map (·.name):=fun hm=>h2 (qCC.2 hm)
        refine ⟨p1,?_,⟨?_,?_,?_,?_,?_,?_⟩,hs.rise,fun r hr2=>?_⟩
        ·show (s.l++[_]).map _=_
         rw [zU,hs.ks,ed,ek]
         simp
        ·show ((s.l++[_]).map _).Nodup
         rw [zU,List.nodup_append]
         refine ⟨hs.pks.names,by simp,fun a ha b hb e=>?_⟩
         simp at hb
         rw [e,hb] at ha
         exact hnew ha
        ·intro p hp2
         rcases zX.1 hp2 with hp2 | hp2
         ·exact hs.pks.well p hp2
         ·simp at hp2;subst hp2;simpa using h1
        ·intro p hp2
         rcases zX.1 hp2 with hp2 | hp2
         ·exact hs.pks.rise p hp2
         ·simp at hp2;subst hp2;exact qJY _ _
        ·intro p hp2
         rcases zX.1 hp2 with hp2 | hp2
         ·exact hs.pks.few p hp2
         ·simp at hp2;subst hp2;show (refsIn _ _).length≤20;omega
        ·show qB6 [] (s.l++[_])
         rw [qBy]
         refine ⟨hs.pks.refs,⟨fun x hx=>?_,trivial⟩⟩
         have:=qJm _ _ x hx
         simp at this ⊢
         rcases this with h5 | h5
         ·exact .inr h5
         ·exact .inl h5
        ·show (s.l++[_]).length≤40
         simp;omega
        ·have:=hs.roots r hr2
         show r∈(s.l++[_]).map _
         rw [zU]
         exact zX.2 (.inl this)
theorem qC4 {l:List Pk} (hn:(l.map (·.name)).Nodup) (roots:List Bytes):(qBt l roots).Nodup:=by
 unfold qBt
 have h1:(l.reverse.filter fun p=>!(closure l roots).contains p.name).Sublist l.reverse:=List.filter_sublist
 have h2:(l.reverse.map (·.name)).Nodup:=by rw [List.map_reverse];exact List.pairwise_reverse.2 (hn.imp Ne.symm)
 exact (h1.map _).nodup h2
theorem qDt {l:List Pk} {roots:List Bytes} {x:Bytes}:x∈qBt l roots↔x∈l.map (·.name)∧x∉closure l roots:=by
 unfold qBt
 constructor
 ·intro h
  obtain ⟨p,hp,e⟩:=ze.1 h
  obtain ⟨h1,h2⟩:=zZ.1 hp
  subst e
  exact ⟨zf (f:=Pk.name) (List.mem_reverse.1 h1),by simpa using h2⟩
 ·rintro ⟨h1,h2⟩
  obtain ⟨p,hp,e⟩:=ze.1 h1
  subst e
  exact ze.2 ⟨p,zZ.2 ⟨by simpa using hp,by simpa using h2⟩,rfl⟩
theorem qRm {s:Sto} (hs:qDY s):qDY s.gc.2∧s.gc.2.l=s.l.filter (fun p=>(closure s.l s.roots).contains p.name)∧s.gc.2.roots=s.roots∧s.gc.2.d.next=s.d.next ∧
  (∀ p∈s.gc.2.l,s.gc.2.d.get p.k=s.d.get p.k):=by
 have hsp:=qEg (qBt s.l s.roots) s.d s.l hs.dirs hs.ks hs.pks.names (qC4 hs.pks.names _) (fun x hx=>(qDt.1 hx).1)
 obtain ⟨b1,b2,b3,b4,b5⟩:=hsp
 have el:s.gc.2.l=s.l.filter (fun p=>(closure s.l s.roots).contains p.name):=by
  show (qAw s.d s.l (qBt s.l s.roots)).2=_
  rw [b2]
  apply List.filter_congr
  intro p hp
  have hpm:p.name∈s.l.map (·.name):=zf (f:=(·.name)) hp
  have h1:p.name∈qBt s.l s.roots↔¬ p.name∈closure s.l s.roots:=by
   rw [qDt]
   exact ⟨fun h=>h.2,fun h=>⟨hpm,h⟩⟩
  by_cases h2:p.name∈closure s.l s.roots
  ·have h3:¬ p.name∈qBt s.l s.roots:=fun h=>h1.1 h h2
   simp [h2,h3]
  ·have h3:p.name∈qBt s.l s.roots:=h1.2 h2
   simp [h2,h3]
 refine ⟨⟨b1,b3,?_,hs.rise,fun r hr=>?_⟩,el,rfl,b4,b5⟩
 ·show qEJ s.gc.2.l
  rw [el]
  refine qIe hs.pks (fun x=>(closure s.l s.roots).contains x) fun p hp hc x hx=>?_
  rw [List.contains_iff_mem] at hc ⊢
  exact qDH hs.pks.names hs.pks.refs _ p hp hc x hx
 ·show r∈s.gc.2.l.map (·.name)
  rw [el]
  obtain ⟨p,hp,e⟩:=ze.1 (hs.roots r hr)
  refine ze.2 ⟨p,zZ.2 ⟨hp,?_⟩,e⟩
  rw [List.contains_iff_mem,e]
  exact qEx _ _ r hr
theorem qQY {s:Sto} (hs:qDY s):qDY { s with d:=s.d.mergeAll.2 }:=by
 obtain ⟨a1,a2,a3,a4,a5,a6⟩:=qHt s.d.weight s.d hs.dirs (zq _)
 exact ⟨a1,by show _=(Dirs.merge _ _).2.l.map _;rw [a3];exact hs.ks,hs.pks,hs.rise,hs.roots⟩
theorem qNp {d:Dirs} (hd:qAN d) {disk:List Bytes} (h1:disk.length=d.t.disk.length) (h2:∀ b∈disk,b.length=16):qAN { d with t:={ d.t with disk:=disk } }:=by
 refine ⟨⟨h2,hd.tab.nodup,fun n x hx k hk=>?_,hd.tab.need,hd.tab.links,hd.tab.bytes,hd.tab.apart⟩,hd.keys,hd.next,hd.well,hd.bare,hd.files,hd.links,hd.there⟩
 show k<disk.length
 rw [h1]
 exact hd.tab.inside n x hx k hk
theorem qGu (s:Bytes) (bit:Nat):(turnBit s bit).length=s.length:=by simp [turnBit]
theorem qNb {s s':Sto} {line a:Bytes} (hs:qDY s) (h:s.change line=some (.ok (a,s'))):qDY s':=by
 unfold Sto.change at h
 split at h
 ·injection h with h;injection h with h;injection h with _ h;subst h;exact (qRm hs).1
 ·split at h
  ·injection h with h;injection h with h;injection h with _ h;subst h;exact qQY hs
  ·cases hc:cutAt 32 line with
   | none=>rw [hc] at h;cases h
   | some q =>
    obtain ⟨word,rest⟩:=q
    rw [hc] at h
    simp only at h
    split at h
    ·cases ha:s.add rest with
     | error e=>rw [ha] at h;cases h
     | ok x=>rw [ha] at h;injection h with h;injection h with h;injection h with _ h;subst h;exact qRd hs ha
    ·split at h
     ·injection h with h
      split at h
      ·cases h
      ·rename_i h1
       split at h
       ·cases h
       ·injection h with h;injection h with _ h;subst h
        refine ⟨hs.dirs,hs.ks,hs.pks,qHB _ _ hs.rise,fun r hr=>?_⟩
        rcases (qHS rest r s.roots).1 hr with h2 | h2
        ·subst h2
         refine qCC.1 ?_
         cases hf:s.find r with
         | none=>rw [hf] at h1;simp at h1
         | some p=>unfold Sto.find at hf;rw [hf];rfl
        ·exact hs.roots r h2
     ·split at h
      ·injection h with h
       split at h
       ·injection h with h;injection h with _ h;subst h
        exact ⟨hs.dirs,hs.ks,hs.pks,hs.rise.filter _,fun r hr=>hs.roots r (zZ.1 hr).1⟩
       ·cases h
      ·split at h
       ·injection h with h
        split at h
        ·cases h
        ·split at h
         ·rename_i k bit _ _
          cases hr:s.d.t.rot k bit with
          | error e=>rw [hr] at h;cases h
          | ok t =>
           rw [hr] at h
           injection h with h;injection h with _ h;subst h
           unfold Tab.rot at hr
           split at hr
           ·cases hr
           ·injection hr with hr
            subst hr
            refine ⟨qNp hs.dirs (by simp) (fun b hb=>?_),hs.ks,hs.pks,hs.rise,hs.roots⟩
            rename_i hk
            rcases List.mem_or_eq_of_mem_set hb with h2 | h2
            ·exact hs.dirs.tab.whole b h2
            ·rw [h2,qGu]
             have hlt:k<s.d.t.disk.length:=by omega
             rw [List.getD_eq_getElem?_getD,zL hlt]
             exact hs.dirs.tab.whole _ (zO hlt)
         ·cases h
       ·split at h
        ·injection h with h
         split at h
         ·cases h
         ·split at h
          ·rename_i data _ n _
           cases hr:s.d.t.mend n _ with
           | error e=>rw [hr] at h;cases h
           | ok t =>
            rw [hr] at h
            injection h with h;injection h with _ h;subst h
            unfold Tab.mend at hr
            split at hr
            ·cases hr
            ·split at hr
             ·cases hr
             ·split at hr
              ·cases hr
              ·injection hr with hr
               subst hr
               exact ⟨qNp hs.dirs (qAJ _ _ _) (qDd _ _ _ hs.dirs.tab.whole),hs.ks,hs.pks,hs.rise,hs.roots⟩
          ·cases h
        ·cases h
end Stl
