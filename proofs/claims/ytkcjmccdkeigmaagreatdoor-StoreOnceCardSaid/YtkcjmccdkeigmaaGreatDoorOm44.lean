/- Texts of this claim, merged: OncePure, GonePure, StoDo, News. -/
import Derived.Test.YtkcjmccdkeigmaaGreatDoorOm43
set_option maxHeartbeats 16000000
set_option maxRecDepth 1000000
set_option linter.all false
namespace Stl
def qA5 (t:Tab):Prop:=∀ n x,t.at_ n=some x→∃ b,t.read n=.ok b
theorem qLO {t t':Tab} {data:Bytes} {exec:Bool} {n:Nat} (ht:qBn t) (hc:qA5 t) (h:t.make data exec=.ok (n,t')):qA5 t':=by
 intro m x hx
 by_cases e:m=n
 ·rw [e];exact ⟨_,qIW ht h⟩
 ·rw [qCR ht h e]
  rw [qDe h,zK1 e] at hx
  exact hc m x hx
theorem qLz {t t':Tab} {n:Nat} (hc:qA5 t) (h:t.link n=.ok t'):qA5 t':=by
 intro m x hx
 rw [qIZ h]
 obtain ⟨y,hy,_⟩:=qBX h
 rw [qDX hy h] at hx
 split at hx
 ·rename_i e;rw [e];exact hc n y hy
 ·exact hc m x hx
theorem qEZ {t t':Tab} {n:Nat} (hc:qA5 t) (h:t.unlink n=.ok t'):qA5 t':=by
 intro m x hx
 rw [qD4 h (by rw [hx];rfl)]
 obtain ⟨y,hy,_⟩:=qBw h
 rw [qCV hy h] at hx
 split at hx
 ·rename_i e;rw [e];exact hc n y hy
 ·exact hc m x hx
theorem qEL:∀ (xs:List It) (t:Tab) (f:List (Bytes×Nat)) (t':Tab),qBn t→qA5 t→makeAll t xs=.ok (f,t')→qA5 t'
 | [],t,f,t',ht,hc,h=>by
  simp only [makeAll] at h
  injection h with h
  injection h with _ h
  subst h
  exact hc
 | x::r,t,f,t',ht,hc,h=>by
  simp only [makeAll] at h
  cases hm:t.make x.n.data x.n.exec with
  | error e=>rw [hm] at h;cases h
  | ok q =>
   obtain ⟨n,t1⟩:=q
   rw [hm] at h
   simp only at h
   cases ha:makeAll t1 r with
   | error e=>rw [ha] at h;cases h
   | ok q2 =>
    obtain ⟨l,t2⟩:=q2
    rw [ha] at h
    injection h with h
    injection h with _ h2
    subst h2
    exact qEL r t1 l t2 (qJo ht hm) (qLO ht hc hm) ha
theorem qB4:∀ (f:List (Bytes×Nat)) (t:Tab),qA5 t→qA5 (qAg t f)
 | [],t,h=>h
 | (s,n)::r,t,h=>by
  simp only [qAg]
  cases hu:t.unlink n with
  | error e=>exact qB4 r t h
  | ok t1=>exact qB4 r t1 (qEZ h hu)
theorem qIU {d d':Dirs} {n:Nd} {k:Nat} (hd:qAG d) (hc:qA5 d.t) (h:d.put n=.ok (k,d')):qA5 d'.t:=by
 obtain ⟨_,_,_,f,t,hm,rfl⟩:=qC8 h
 exact qEL _ _ _ _ hd.tab hc hm
theorem qK7 {d d':Dirs} {k:Nat} (hc:qA5 d.t) (h:d.drop k=.ok d'):qA5 d'.t:=by
 unfold Dirs.drop at h
 cases he:qAj d.l k with
 | none=>rw [he] at h;cases h
 | some e=>rw [he] at h;injection h with h;subst h;exact qB4 _ _ hc
theorem qLq {d d':Dirs} (hd:qAG d) (hc:qA5 d.t) (h:d.step=some d'):qA5 d'.t:=by
 obtain ⟨_,_,_,_,_,_,_,_,_,_,h1,h2,rfl⟩:=qEN hd h
 exact qEZ (qLz hc h1) h2
theorem qFP:∀ (f:Nat) (d:Dirs),qAG d→qA5 d.t→qA5 (Dirs.merge f d).2.t
 | 0,d,_,hc=>hc
 | f+1,d,hd,hc=>by
  unfold Dirs.merge
  cases hs:d.step with
  | none=>exact hc
  | some d1=>exact qFP f d1 (step_ok hd hs).1 (qLq hd hc hs)
theorem qBp:∀ (dead:List Bytes) (d:Dirs) (l:List Pk),qA5 d.t→qA5 (qAr d l dead).1.t
 | [],d,l,h=>h
 | nm::r,d,l,h=>by
  simp only [qAr]
  split
  ·exact qBp r d l h
  ·rename_i p _
   cases hd:d.drop p.k with
   | error e=>exact qBp r d _ h
   | ok d1=>exact qBp r d1 _ (qK7 h hd)
theorem qG4 {t:Tab} (hc:qA5 t):t.scan=[]:=by
 unfold Tab.scan
 rw [List.filter_eq_nil_iff]
 intro n hn
 unfold Tab.all at hn
 have:=(zZ.1 hn).2
 obtain ⟨x,hx⟩:=zy.1 this
 obtain ⟨b,hb⟩:=hc n x hx
 simp [hb]
mutual
theorem qGI {t:Tab} {f:List (Bytes×Nat)}:∀ (n:Nd) (p:Bytes) (d:Nat),(∀ x∈flat n p d,x.n.kind=kFile→∃ b,t.read ((qAD f (told x.path)).getD 0)=.ok b)→∃ m,qA3 t f n p=.ok m
 | .mk k s e ks,p,d,h=>by
  obtain ⟨l,hl⟩:=qDM (t:=t) (f:=f) ks p (d+1) (fun x hx=>h x (by simp [flat,hx]))
  unfold qA3
  by_cases hk:k=kFile
  ·obtain ⟨b,hb⟩:=h ⟨p,d,.mk k s e ks⟩ (by simp [flat]) hk
   rw [zL1 hk,hb];exact ⟨_,rfl⟩
  ·rw [zK1 hk,hl];exact ⟨_,rfl⟩
theorem qDM {t:Tab} {f:List (Bytes×Nat)}:∀ (l:List (Bytes×Nd)) (p:Bytes) (d:Nat),(∀ x∈flatL l p d,x.n.kind=kFile→∃ b,t.read ((qAD f (told x.path)).getD 0)=.ok b)→∃ m,qAL t f l p=.ok m
 | [],_,_,_=>⟨[],rfl⟩
 | (nm,y)::r,p,d,h=>by
  obtain ⟨a,ha⟩:=qGI (t:=t) (f:=f) y (p++47::nm) d (fun x hx=>h x (by simp [flatL,hx]))
  obtain ⟨b,hb⟩:=qDM (t:=t) (f:=f) r p d (fun x hx=>h x (by simp [flatL,hx]))
  unfold qAL
  rw [ha,hb];exact ⟨_,rfl⟩
end
theorem qMj {d:Dirs} (hd:qAG d) (hc:qA5 d.t) {e:Ent} (he:e∈d.l):∃ n,d.get e.k=.ok n:=by
 unfold Dirs.get
 rw [qAu hd.keys he]
 refine qGI e.n [] 0 fun x hx hk=>?_
 obtain ⟨m,h1,_,h3⟩:=qFY hd he hx hk
 obtain ⟨y,hy⟩:=zy.1 h3
 rw [h1]
 exact hc m y hy
structure Alike (s t:Sto):Prop where
 os:qCP s
 ot:qCP t
 cs:qA5 s.d.t
 ct:qA5 t.d.t
 l:t.l=s.l
 roots:t.roots=s.roots
 next:t.d.next=s.d.next
 get:∀ p∈s.l,t.d.get p.k=s.d.get p.k
theorem qM1 (blocks:Nat):Alike (Sto.new blocks) (Sto.new blocks):=by
 have hc:qA5 (Sto.new blocks).d.t:=fun n x hx=>by simp [Sto.new,Tab.at_] at hx
 exact ⟨qJ3 _,qJ3 _,hc,hc,rfl,rfl,rfl,fun _ _=>rfl⟩
theorem qMR {s t:Sto} (h:Alike s t):Alike s { t with d:=t.d.mergeAll.2 }:=by
 obtain ⟨a1,a2,a3,a4,a5,a6⟩:=qFu t.d.weight t.d h.ot.dirs (zo _)
 exact ⟨h.os,qPW h.ot,h.cs,qFP _ _ h.ot.dirs h.ct,h.l,h.roots,by show (Dirs.merge _ _).2.next=_;rw [a4];exact h.next,fun p hp=>by
  show (Dirs.merge _ _).2.get _=_
  rw [a2];exact h.get p hp⟩
theorem qN4 {s t:Sto} (h:Alike s t):t.gc.1=s.gc.1∧Alike s.gc.2 t.gc.2:=by
 obtain ⟨a1,a2,a3,a4,a5⟩:=qQi h.os
 obtain ⟨b1,b2,b3,b4,b5⟩:=qQi h.ot
 have hl:t.gc.2.l=s.gc.2.l:=by rw [b2,a2,h.l,h.roots]
 refine ⟨by show (qBl t.l t.roots).length=(qBl s.l s.roots).length;rw [h.l,h.roots],⟨a1,b1,qBp _ _ _ h.cs,qBp _ _ _ h.ct,hl,by rw [b3,a3,h.roots],by rw [b4,a4,h.next],fun p hp=>?_⟩⟩
 rw [b5 p (by rw [hl];exact hp),a5 p hp]
 rw [a2] at hp
 exact h.get p (zZ.1 hp).1
theorem qBY {s t:Sto} (h:Alike s t) (name:Bytes):t.find name=s.find name:=by unfold Sto.find;rw [h.l]
theorem qNR {s t:Sto} (h:Alike s t) (rest:Bytes) :
  (∃ e,s.add rest=.error e∧t.add rest=.error e)∨s.add rest=.error 8∨t.add rest=.error 8∨∃ s' t',s.add rest=.ok s'∧t.add rest=.ok t'∧Alike s' t':=by
 cases hc:cutAt 32 rest with
 | none=>exact .inl ⟨1,by unfold Sto.add;rw [hc],by unfold Sto.add;rw [hc]⟩
 | some q =>
  obtain ⟨name,text⟩:=q
  by_cases h1:isName name=false
  ·exact .inl ⟨5,by unfold Sto.add;simp only [hc];rw [zL1 h1],by unfold Sto.add;simp only [hc];rw [zL1 h1]⟩
  ·by_cases h2:(s.find name).isSome=true
   ·exact .inl ⟨7,by unfold Sto.add;simp only [hc];rw [zK1 h1,zL1 h2],by unfold Sto.add;simp only [hc];rw [zK1 h1,qBY h,zL1 h2]⟩
   ·by_cases h3:40≤s.l.length
    ·exact .inr (.inl (by unfold Sto.add;simp only [hc];rw [zK1 h1,zK1 h2,zL1 h3]))
    ·cases hr:qAU text with
     | error e=>exact .inl ⟨e,by unfold Sto.add;simp only [hc,hr];rw [zK1 h1,zK1 h2,zK1 h3],by unfold Sto.add;simp only [hc,hr];rw [zK1 h1,qBY h,zK1 h2,h.l,zK1 h3]⟩
     | ok n =>
      by_cases h4:20<(refsIn n (s.l.map (·.name)++[name])).length
      ·exact .inr (.inl (by unfold Sto.add;simp only [hc,hr];rw [zK1 h1,zK1 h2,zK1 h3,zL1 h4]))
      ·have es:s.add rest=match s.d.put n with | .error e=>.error e | .ok (k,d)=>.ok { s with d:=d,l:=s.l++[⟨name,refsIn n (s.l.map (·.name)++[name]),k⟩] }:=by
        unfold Sto.add;simp only [hc,hr];rw [zK1 h1,zK1 h2,zK1 h3,zK1 h4]
        rfl
       have et:t.add rest=match t.d.put n with | .error e=>.error e | .ok (k,d)=>.ok { t with d:=d,l:=t.l++[⟨name,refsIn n (s.l.map (·.name)++[name]),k⟩] }:=by
        unfold Sto.add;simp only [hc,hr];rw [zK1 h1,qBY h,zK1 h2,h.l,zK1 h3,zK1 h4]
        rfl
       by_cases h0:treeErr n=0
       ·by_cases hfs:qB0 n≤s.d.t.free.length
        ·by_cases hft:qB0 n≤t.d.t.free.length
         ·obtain ⟨k,d,hp⟩:=qFI h.os.dirs h0 hfs
          obtain ⟨k',d',hp'⟩:=qFI h.ot.dirs h0 hft
          rw [hp] at es
          rw [hp'] at et
          simp only at es et
          obtain ⟨p1,p2,p3⟩:=qNJ h.os.dirs hp
          obtain ⟨q1,q2,q3⟩:=qNJ h.ot.dirs hp'
          obtain ⟨_,_,ek,f,tt,_,ed⟩:=qC8 hp
          obtain ⟨_,_,ek',f',tt',_,ed'⟩:=qC8 hp'
          have hkk:k'=k:=by rw [ek,ek',h.next]
          refine .inr (.inr (.inr ⟨_,_,es,et,⟨qNi h.os es,qNi h.ot et,qIU h.os.dirs h.cs hp,qIU h.ot.dirs h.ct hp',?_,h.roots,?_,?_⟩⟩))
          ·show t.l++_=s.l++_
           rw [h.l,hkk]
          ·show d'.next=d.next
           rw [ed,ed',h.next]
          ·intro p hp2
           show d'.get p.k=d.get p.k
           rcases zX.1 hp2 with hp2 | hp2
           ·have hlt:p.k<s.d.next:=by
             have:p.k∈s.l.map (·.k):=ze (f:=(·.k)) hp2
             rw [h.os.ks] at this
             obtain ⟨e,he,e2⟩:=zb.1 this
             rw [← e2]
             exact h.os.dirs.next e he
            rw [p3 _ hlt,q3 _ (by rw [h.next];exact hlt)]
            exact h.get p hp2
           ·simp at hp2
            subst hp2
            show d'.get k=d.get k
            rw [p2,← hkk,q2]
         ·refine .inr (.inr (.inl ?_))
          rw [et]
          have:t.d.put n=.error 8:=by unfold Dirs.put;rw [zK1 (by omega),zL1 (by omega)]
          rw [this]
        ·refine .inr (.inl ?_)
         rw [es]
         have:s.d.put n=.error 8:=by unfold Dirs.put;rw [zK1 (by omega),zL1 (by omega)]
         rw [this]
       ·refine .inl ⟨treeErr n,?_,?_⟩
        ·rw [es]
         have:s.d.put n=.error (treeErr n):=by unfold Dirs.put;rw [zL1 h0]
         rw [this]
        ·rw [et]
         have:t.d.put n=.error (treeErr n):=by unfold Dirs.put;rw [zL1 h0]
         rw [this]
theorem qLI {s t:Sto} (h:Alike s t) (name:Bytes):t.tree name=s.tree name:=by
 unfold Sto.tree
 rw [qBY h]
 cases hf:s.find name with
 | none=>rfl
 | some p=>exact h.get p (qBP hf).1
def qBN (line:Bytes):Prop :=
 let w:=match cutAt 32 line with | none=>line | some (w,_)=>w
 w≠[114,111,116]∧w≠[109,101,110,100]∧w≠[102,114,101,101]∧w≠[115,97,118,101,100]∧w≠[119,104,101,114,101]∧w≠[111,112,116]
theorem qLK {s t:Sto} (h:Alike s t) {line:Bytes} (hp:qBN line):t.tell line=s.tell line:=by
 have hc1:=qG4 h.cs
 have hc2:=qG4 h.ct
 have hf:=qBY h
 have ht:=qLI h
 have hne1:line≠[102,114,101,101]:=fun e=>by subst e;exact hp.2.2.1 (by decide)
 have hne2:line≠[115,97,118,101,100]:=fun e=>by subst e;exact hp.2.2.2.1 (by decide)
 unfold Sto.tell
 rw [zK1 hne1,zK1 hne2,zK1 hne1,zK1 hne2,h.l,h.roots,hc1,hc2]
 cases hc:cutAt 32 line with
 | none=>rfl
 | some q =>
  obtain ⟨word,rest⟩:=q
  simp only [hf]
  have hw:word≠[119,104,101,114,101]:=by
   have:=hp.2.2.2.2.1
   unfold qBN at hp
   rw [hc] at hp
   exact hp.2.2.2.2.1
  rw [zK1 hw,zK1 hw]
  have hr:t.read rest=s.read rest:=by
   unfold Sto.read
   simp only [ht]
  rw [hr]
theorem qHX {s t:Sto} (h:Alike s t) {line:Bytes} (hp:qBN line) :
  (s.change line=none∧t.change line=none)∨(∃ e,s.change line=some (.error e)∧t.change line=some (.error e))∨s.change line=some (.error 8)∨t.change line=some (.error 8) ∨
   ∃ a s' t',s.change line=some (.ok (a,s'))∧t.change line=some (.ok (a,t'))∧Alike s' t':=by
 have hne:line≠[111,112,116]:=fun e=>by subst e;exact hp.2.2.2.2.2 (by decide)
 by_cases hg:line=[103,99]
 ·obtain ⟨g1,g2⟩:=qN4 h
  refine .inr (.inr (.inr (.inr ⟨dec s.gc.1,s.gc.2,t.gc.2,?_,?_,g2⟩)))
  ·unfold Sto.change;rw [zL1 hg]
  ·unfold Sto.change;rw [zL1 hg,g1]
 ·cases hc:cutAt 32 line with
  | none =>
   refine .inl ⟨?_,?_⟩
   ·unfold Sto.change;rw [zK1 hg,zK1 hne,hc]
   ·unfold Sto.change;rw [zK1 hg,zK1 hne,hc]
  | some q =>
   obtain ⟨word,rest⟩:=q
   unfold qBN at hp
   rw [hc] at hp
   obtain ⟨p1,p2,p3,p4,p5,p6⟩:=hp
   have es:s.change line=(if word=[97,100,100] then some ((s.add rest).map fun x=>(bOk,x)) else if word=[114,111,111,116] then
    some (if (s.find rest).isNone then .error 6 else if s.roots.contains rest then .error 7 else .ok (bOk,{ s with roots:=ins rest s.roots })) else if word=[117,110,114,111,111,116] then
    some (if s.roots.contains rest then .ok (bOk,{ s with roots:=s.roots.filter fun x=>x != rest }) else .error 6) else none):=by
    unfold Sto.change;rw [zK1 hg,zK1 hne,hc];simp only;rw [zK1 p1,zK1 p2]
   have et:t.change line=(if word=[97,100,100] then some ((t.add rest).map fun x=>(bOk,x)) else if word=[114,111,111,116] then
    some (if (t.find rest).isNone then .error 6 else if t.roots.contains rest then .error 7 else .ok (bOk,{ t with roots:=ins rest t.roots })) else if word=[117,110,114,111,111,116] then
    some (if t.roots.contains rest then .ok (bOk,{ t with roots:=t.roots.filter fun x=>x != rest }) else .error 6) else none):=by
    unfold Sto.change;rw [zK1 hg,zK1 hne,hc];simp only;rw [zK1 p1,zK1 p2]
   rw [es,et,qBY h,h.roots]
   by_cases w1:word=[97,100,100]
   ·simp only [zL1 w1]
    rcases qNR h rest with ⟨e,a1,a2⟩ | a1 | a1 | ⟨s',t',a1,a2,a3⟩
    ·exact .inr (.inl ⟨e,by rw [a1];rfl,by rw [a2];rfl⟩)
    ·exact .inr (.inr (.inl (by rw [a1];rfl)))
    ·exact .inr (.inr (.inr (.inl (by rw [a1];rfl))))
    ·exact .inr (.inr (.inr (.inr ⟨bOk,s',t',by rw [a1];rfl,by rw [a2];rfl,a3⟩)))
   ·simp only [zK1 w1]
    by_cases w2:word=[114,111,111,116]
    ·simp only [zL1 w2]
     by_cases f1:(s.find rest).isNone=true
     ·exact .inr (.inl ⟨6,by rw [zL1 f1],by rw [zL1 f1]⟩)
     ·simp only [zK1 f1]
      by_cases f2:s.roots.contains rest=true
      ·exact .inr (.inl ⟨7,by rw [zL1 f2],by rw [zL1 f2]⟩)
      ·simp only [zK1 f2]
       have hmem:rest∈s.l.map (·.name):=by
        refine qBJ.1 ?_
        cases hq:s.find rest with
        | none=>rw [hq] at f1;simp at f1
        | some p=>unfold Sto.find at hq;rw [hq];rfl
       have hro:∀ r∈ins rest s.roots,r∈s.l.map (·.name):=fun r hr=>by
        rcases (qF8 rest r s.roots).1 hr with h2 | h2
        ·rw [h2];exact hmem
        ·exact h.os.roots r h2
       refine .inr (.inr (.inr (.inr ⟨bOk,_,_,rfl,rfl,⟨⟨h.os.dirs,h.os.ks,h.os.pks,qD9 _ _ h.os.rise,hro⟩,⟨h.ot.dirs,h.ot.ks,h.ot.pks,qD9 _ _ h.os.rise,by show ∀ r∈ins rest s.roots,r∈t.l.map (·.name);rw [h.l];exact hro⟩,h.cs,h.ct,h.l,rfl,h.next,h.get⟩⟩)))
    ·simp only [zK1 w2]
     by_cases w3:word=[117,110,114,111,111,116]
     ·simp only [zL1 w3]
      by_cases f2:s.roots.contains rest=true
      ·simp only [zL1 f2]
       have hro:∀ r∈s.roots.filter (fun x=>x != rest),r∈s.l.map (·.name):=fun r hr=>h.os.roots r (zZ.1 hr).1
       refine .inr (.inr (.inr (.inr ⟨bOk,_,_,rfl,rfl,⟨⟨h.os.dirs,h.os.ks,h.os.pks,h.os.rise.filter _,hro⟩,⟨h.ot.dirs,h.ot.ks,h.ot.pks,h.os.rise.filter _,by show ∀ r∈s.roots.filter (fun x=>x != rest),r∈t.l.map (·.name);rw [h.l];exact hro⟩,h.cs,h.ct,h.l,rfl,h.next,h.get⟩⟩)))
      ·exact .inr (.inl ⟨6,by rw [zK1 f2],by rw [zK1 f2]⟩)
     ·exact .inl ⟨by rw [zK1 w3],by rw [zK1 w3]⟩
def Sto.packs (s:Sto):Except Nat (List (Pk×Nd)):=s.l.mapM fun p=>(s.d.get p.k).map fun n=>(p,n)
theorem qEx {α β:Type} (f g:α→Except Nat β):∀ (l:List α),(∀ x∈l,f x=g x)→l.mapM f=l.mapM g
 | [],_=>rfl
 | x::r,h=>by
  rw [List.mapM_cons,List.mapM_cons,h x (by simp),qEx f g r (fun y hy=>h y (by simp [hy]))]
theorem qJ6 {s t:Sto} (h:Alike s t):t.packs=s.packs:=by
 unfold Sto.packs
 rw [h.l]
 exact qEx _ _ _ fun p hp=>by rw [h.get p hp]
theorem qG5 {α β:Type} (f:α→Except Nat β):∀ (l:List α),(∀ x∈l,∃ y,f x=.ok y)→∃ m,l.mapM f=.ok m
 | [],_=>⟨[],rfl⟩
 | x::r,h=>by
  obtain ⟨y,hy⟩:=h x (by simp)
  obtain ⟨m,hm⟩:=qG5 f r (fun z hz=>h z (by simp [hz]))
  exact ⟨y::m,by rw [List.mapM_cons,hy,hm];rfl⟩
theorem qJQ {s:Sto} (hs:qCP s) (hc:qA5 s.d.t):∃ l,s.packs=.ok l:=by
 refine qG5 _ _ fun p hp=>?_
 have:p.k∈s.l.map (·.k):=ze (f:=(·.k)) hp
 rw [hs.ks] at this
 obtain ⟨e,he,e2⟩:=zb.1 this
 obtain ⟨n,hn⟩:=qMj hs.dirs hc he
 rw [e2] at hn
 exact ⟨(p,n),by rw [hn];rfl⟩
theorem qNT:∀ n,n≤250→(dec n).length≤3:=by decide +kernel
theorem qCY {line:Bytes} (h:line.length≤250):(record line).length≤300:=by
 have:=qNT _ h
 simp only [record,zP,zQ,List.length_nil]
 omega
theorem qCd {t:Tape} {line:Bytes} (h:line.length≤250) (h1:t.off=false) (h2:t.cut=none) (h3:t.b.length≤100000):t.append line=(0,{ t with b:=t.b++record line }):=by
 have hr:=qCY h
 unfold Tape.append
 rw [zK1 (by omega),zK1 (by omega),zK1 (by rw [h1];decide),h2]
end Stl
namespace Go.Proofs.YtkcjmccdkeigmaaGreatDoor
open Go.RowKit Go.Sort Go.Shelf Stl
theorem qJi {p:Nat→Addr} (e:Addr) (w:World) (hE:Errs w p) :
  Calls Tryz.prog 21 #[.iface 366 (.pointer (some e))] w fun ev w'=>ev=.returned (.iface 366 (.pointer (some e)))∧Below w.heap.size w w':=by
 have hb1:=(zB w.heap.size w).alloc (zo _) (.cells #[.pointer none] 66)
 have HB1:=Hh hb1
 have HAS:=Hh (qQY e ⟨w.heap.size,0,none⟩ (w.alloc (.cells #[.pointer none] 66)) (hE.later hb1).ety.1)
 clear hE hb1
 go_enter Tryz.func21,Tryz.ntmps21
 go_wp2_with (go_at_call 22;refine HAS.out.mono ?_;rintro ev w2 ⟨rfl,hb2⟩;have HB2:=Hh (HB1.out.trans (hb2.mono HB1.out.size));clear hb2)
 go_ret
 exact ⟨rfl,HB2.out⟩
def Sdo:Col→Bool:=fun y=>!(decide (y=.ro)||decide (y=.dead))
def kDo (c:Nat→Col):Nat→Col:=fun k=>if c k=.ro then .ro else if c k=.tape then .tape else if c k=.tapeL then .tapeL else .dead
def qO2:Col→Bool:=fun y=>!(decide (y=.ro)||decide (y=.tape)||decide (y=.tapeL)||decide (y=.dead))
theorem qOj {c:Nat→Col} {k:Nat} (h:qO2 (c k)=false):kDo c k=c k:=by
 unfold kDo qO2 at *
 cases hc:c k<;>simp [hc] at h ⊢
theorem qQl (c:Nat→Col) (k:Nat):qD6 (kDo c k)=false:=by
 unfold kDo
 split
 ·rfl
 ·split
  ·rfl
  ·split<;>rfl
theorem qLY {p:Nat→Addr} {w:World} {c:Nat→Col} {b tp:Nat} {cd:Nat} {a:ByteArray} {er:Value} {w':World} (h:ChPost p w c b tp (.error cd) (.returned (.tuple #[.string a,er])) w'):(er=qAM p cd∧cd≠0)∧∃ c2,Ext w w' c c2 qD6:=by
 obtain ⟨a',er',c2,hev,he,hm⟩:=h
 have:er=er':=by
  injection hev with hev
  injection hev with hev
  have:=congrArg (fun x:Array Value=>x[1]?) hev
  simpa using this
 exact ⟨this▸hm,c2,he⟩
theorem qNG {p:Nat→Addr} {w:World} {c:Nat→Col} {b tp:Nat} {q:List UInt8×Sto} {a:ByteArray} {er:Value} {w':World} (h:ChPost p w c b tp (.ok q) (.returned (.tuple #[.string a,er])) w'):(er=.nilIface∧a=⟨q.1.toArray⟩)∧∃ c2,Ext w w' c c2 qD6∧StoAt w' c2 b q.2 tp:=by
 obtain ⟨a',er',c2,hev,he,h1,h2,h3⟩:=h
 have e1:er=er':=by
  injection hev with hev
  injection hev with hev
  have:=congrArg (fun x:Array Value=>x[1]?) hev
  simpa using this
 have e2:a=a':=by
  injection hev with hev
  injection hev with hev
  have:=congrArg (fun x:Array Value=>x[0]?) hev
  simpa using this
 exact ⟨⟨e1▸h1,e2▸h2⟩,c2,he,h3⟩
def qQ0 (p:Nat→Addr) (w:World) (c:Nat→Col) (b tp:Nat) (s:Sto) (t:Stl.Tape) (line:List UInt8) (ev:Ending) (w':World):Prop :=
 ∃ (a:ByteArray) (er:Value) (c2:Nat→Col),ev=.returned (.tuple #[.string a,er])∧Ext w w' c c2 Sdo∧StoAt w' c2 b (qAi s t line).2.1 tp∧TapeAt w' c2 tp (qAi s t line).2.2 ∧
  match (qAi s t line).1 with
  | .error cd=>er=qAM p cd∧cd≠0∧a=⟨#[]⟩
  | .ok x=>er=.nilIface∧a=⟨x.toArray⟩
section
variable {w:World} {A:Option Addr} {zs:List PkX} {c:Nat→Col} {b:Nat} {s:Sto} {bd:Nat} {cap:Nat} {R:Option Addr} {rc tp:Nat} {p:Nat→Addr}
theorem StoX.moved {w2:World} {c2:Nat→Col} {b2:Nat} (h:StoX w c b s bd A cap zs R rc tp) (hd:c b2=.dead) (e:Ext w w2 (qAy c b2 .sto) c2 (S1 .sto)) (ho:w2.heap[b2]?=some (.cells #[.pointer (some ⟨bd,0,none⟩),.slice A zs.length cap,.slice R s.roots.length rc,.pointer (some ⟨tp,0,none⟩)] 60 (0,0))) (hc:c2 b2=.sto) :
  StoX w2 c2 b2 s bd A cap zs R rc tp:=by
 have e1:Ext w w c (qAy c b2 .sto) (S1 .dead):=Ext.paint w hd .sto
 refine ⟨ho,hc,(h.dirs.ext e1 rfl (fun x hx=>qBo (by intro e;subst e;cases hx))).ext e rfl (fun x hx=>qBo (by intro e;subst e;cases hx)),(h.packs.ext e1 rfl).ext e rfl,h.eq,fun x hx=>⟨(h.ro x hx).1,((h.ro x hx).2.ext e1 rfl).ext e rfl⟩,(h.roots.ext e1 rfl).ext e rfl⟩
theorem qRd {t:Stl.Tape} (h:StoX w c b s bd A cap zs R rc tp) (ht:TapeAt w c tp t) (hg:qBd s) (hE:Env w c p) (line:List UInt8) (hr:line.length≤20000) (h1:t.off=false) (h2:t.cut=none) (h3:t.b.length+(record line).length≤1048576) :
  Calls Tryz.prog 8 #[.pointer (some ⟨b,0,none⟩),.string ⟨line.toArray⟩] w (qQ0 p w c b tp s t line):=by
 have hfew:=h.few hg.ok
 have H:=Hh h
 have HT:=Hh ht
 have HG:=Hh hg
 have HE:=Hh hE
 have HOF:=Hh h1
 have HCU:=Hh h2
 have HCO:=Hh (qK2 (kDo c) (fun k hk=>by unfold kDo;rw [zL1 hk]) h hg.good (by omega) (by have:=qEm hg.ok;omega))
 have HAP:=Hh (show t.append line=(0,{ t with b:=t.b++record line }) from by
  unfold Tape.append
  rw [zK1 (by omega),zK1 (by omega),zK1 (by rw [h1];decide),h2])
 obtain ⟨chg,hchg⟩:∃ chg,chg=s.change line:=⟨_,rfl⟩
 have HCH:=Hh hchg
 have hbl:=qAa h.own
 clear h ht hg hE h1 h2
 go_enter Tryz.func8,Tryz.ntmps8
 go_upto_region 2 with (go_at_call 17;refine HCO.out.mono ?_;rintro ev w2 ⟨b2,c2,rfl,hb2,hc2,hge2,hst2⟩;have HB2:=Hh hb2;have HC2:=Hh hc2;have HST2:=Hh hst2;clear hb2 hc2 hst2)
 have he2:Ext w w2 c c2 qO2:=(Ext.of_below HB2.out c qO2).recolor fun k hk hs=>(HC2.out k hk).trans (qOj hs)
 have HE2:=Hh he2
 have HEN2:=Hh (HE.out.ext he2 rfl)
 obtain ⟨bd2,A2,cap2,zs2,R2,rc2,hx2⟩:=HST2.out.open
 have HX2:=Hh hx2
 have HLOW:=Hh (show ∀ k,k<w.heap.size→qD6 (c2 k)=false from fun k hk=>by rw [HC2.out k hk];exact qQl c k)
 have HCC:=Hh (qH5 hx2 HG.out HEN2.out line (by omega))
 rw [← hchg] at HCC
 clear he2 hx2 hchg
 cases chg with
 | none =>
  have HDL:=Hh (show qAi s t line=(s.tell line,s,t) from by unfold qAi;rw [← HCH.out])
  go_upto_region 4 with (go_at_call 18;refine HCC.out.mono ?_;rintro ev w3 ⟨a3,er3,is3,rfl,rfl,rfl,hb3⟩;have HB3:=Hh hb3;clear hb3)
  have HTL:=Hh (qOG (HX2.out.below HB3.out) HG.out (HEN2.out.below HB3.out) line (by omega))
  have HB23:=Hh (HB2.out.trans (HB3.out.mono HB2.out.size))
  cases htl:s.tell line with
  | error cd =>
   rw [htl] at HTL HDL
   clear htl
   go_upto_region 5 with (go_at_call 19;refine HTL.out.mono ?_;rintro ev w4 ⟨a4,er4,rfl,hb4,rfl,hcd⟩;have HB4:=Hh (HB23.out.trans (hb4.mono HB23.out.size));have HEO:=Hh (qAc p hcd);have HCD:=Hh hcd;clear hb4 hcd)
   rw [HEO.out]
   have HBR:=Hh (qJi (p cd) w4 (HE.out.below HB4.out).errs)
   go_wp2_with (go_at_call 21;refine HBR.out.mono ?_;rintro ev w5 ⟨rfl,hb5⟩;have HB5:=Hh (HB4.out.trans (hb5.mono HB4.out.size));clear hb5)
   go_ret2
   refine ⟨_,_,c,rfl,Ext.of_below HB5.out c Sdo,?_⟩
   rw [HDL.out]
   exact ⟨(H.out.below HB5.out).shut,HT.out.ext (Ext.of_below HB5.out c S0) rfl rfl,by rw [HEO.out];rfl,HCD.out,rfl⟩
  | ok x =>
   rw [htl] at HTL HDL
   clear htl
   go_upto_region 5 with (go_at_call 19;refine HTL.out.mono ?_;rintro ev w4 ⟨a4,er4,rfl,hb4,rfl,rfl⟩;have HB4:=Hh (HB23.out.trans (hb4.mono HB23.out.size));clear hb4)
   go_wp2
   go_ret2
   refine ⟨_,_,c,rfl,Ext.of_below HB4.out c Sdo,?_⟩
   rw [HDL.out]
   exact ⟨(H.out.below HB4.out).shut,HT.out.ext (Ext.of_below HB4.out c S0) rfl rfl,rfl,rfl⟩
 | some res =>
  cases res with
  | error cd =>
   have HDL:=Hh (show qAi s t line=(.error cd,s,t) from by unfold qAi;rw [← HCH.out])
   go_upto_region 5 with (go_at_call 18;refine HCC.out.mono ?_;rintro ev w3 ⟨a3,er3,is3,rfl,rfl,hch⟩;obtain ⟨⟨rfl,hcd⟩,c3,he3⟩:=qLY hch;have HE3:=Hh he3;have HEO:=Hh (qAc p hcd);have HCD:=Hh hcd;clear he3 hcd hch)
   have HB3:=Hh (HB2.out.trans (HE3.out.below HB2.out.size HLOW.out))
   rw [HEO.out]
   have HBR:=Hh (qJi (p cd) w3 (HE.out.below HB3.out).errs)
   go_wp2_with (go_at_call 21;refine HBR.out.mono ?_;rintro ev w5 ⟨rfl,hb5⟩;have HB5:=Hh (HB3.out.trans (hb5.mono HB3.out.size));clear hb5)
   go_ret2
   refine ⟨_,_,c,rfl,Ext.of_below HB5.out c Sdo,?_⟩
   rw [HDL.out]
   exact ⟨(H.out.below HB5.out).shut,HT.out.ext (Ext.of_below HB5.out c S0) rfl rfl,by rw [HEO.out];rfl,HCD.out,rfl⟩
  | ok q =>
   obtain ⟨a,s1⟩:=q
   have HDL:=Hh (show qAi s t line=(.ok a,s1,{ t with b:=t.b++record line }) from by unfold qAi;rw [← HCH.out];simp only;rw [HAP.out,zL1 rfl])
   go_upto_region 5 with (go_at_call 18;refine HCC.out.mono ?_;rintro ev w3 ⟨a3,er3,is3,rfl,rfl,hch⟩;obtain ⟨⟨rfl,rfl⟩,c3,he3,hs3⟩:=qNG hch;have HE3:=Hh he3;have HS3:=Hh hs3;clear he3 hch hs3)
   have HB3:=Hh (HB2.out.trans (HE3.out.below HB2.out.size HLOW.out))
   have HX3:=Hh (H.out.below HB3.out)
   have HT3:=Hh ((HT.out.ext HE2.out rfl rfl).ext HE3.out rfl rfl)
   have c3b:=ce3 HX3.out.own
   have HAW:=Hh (qNu HT3.out HOF.out HCU.out line hr h3 (HE.out.below HB3.out).vars)
   go_upto_region 7 with (go_at_call 20;refine HAW.out.mono ?_;rintro ev w4 ⟨rfl,c4,he4,ht4⟩;have HE4:=Hh he4;have HT4:=Hh ht4;clear he4 ht4)
   clear c3b
   obtain ⟨bd4,A4,cap4,zs4,R4,rc4,hx4⟩:=(HS3.out.ext HE4.out rfl (fun x hx=>by cases x<;>first | rfl | (cases hx))).open
   have HX4:=Hh hx4
   have hb3d:c3 b=.dead:=(HE3.out.col (zt hbl HB2.out.size) (show c2 b=.dead from by rw [HC2.out b hbl];unfold kDo;rw [H.out.col];decide) rfl)
   have hob:=HE4.out.kept HX3.out.own hb3d rfl
   have HOB:=Hh hob
   have a0:=ce0 hx4.own
   have a1:=ce1 hx4.own
   have a2:=ce2 hx4.own
   have a3:=ce3 hx4.own
   have f0:w4.frozen? ⟨b,0,none⟩=false:=qAb hob.1 0
   have f1:w4.frozen? ⟨b,1,none⟩=false:=qAb hob.1 1
   have f2:w4.frozen? ⟨b,2,none⟩=false:=qAb hob.1 2
   have f3:w4.frozen? ⟨b,3,none⟩=false:=qAb hob.1 3
   have b0:=ce0 hob.1
   have b1:=ce1 hob.1
   have b2c:=ce2 hob.1
   have b3c:=ce3 hob.1
   clear hx4 hob hb3d
   go_wp2
   go_ret2
   have hc5:=qAm c4 b .sto
   have hS5:S1 .sto (qAy c4 b .sto b)=true:=by rw [hc5];rfl
   have hSb:Sdo (c b)=true:=by rw [H.out.col];rfl
   have e5:=((((Ext.refl w4 (qAy c4 b .sto) (S1 .sto)).setCell (a:=⟨b,0,none⟩) (fun _=>hS5) (.pointer (some ⟨bd4,0,none⟩))).setCell (a:=⟨b,1,none⟩) (fun _=>hS5) (.slice A4 zs4.length cap4)).setCell (a:=⟨b,2,none⟩) (fun _=>hS5) (.slice R4 s1.roots.length rc4)).setCell (a:=⟨b,3,none⟩) (fun _=>hS5) (.pointer (some ⟨tp,0,none⟩))
   have ep:=Ext.paint w4 HOB.out.2 .sto
   have ew:Ext w w4 c (qAy c4 b .sto) Sdo:=(((HE2.out.mono (S':=Sdo) (fun x hx=>by cases x<;>first | rfl | (cases hx))).then HE3.out (fun x hx=>by cases x<;>first | rfl | (cases hx))).then HE4.out (fun x hx=>by cases x<;>first | rfl | (cases hx))).recolor fun k hk hs=>qEy (fun e=>by rw [e,hSb] at hs;cases hs)
   have e5w:=(((ew.setCell (a:=⟨b,0,none⟩) (fun _=>hSb) (.pointer (some ⟨bd4,0,none⟩))).setCell (a:=⟨b,1,none⟩) (fun _=>hSb) (.slice A4 zs4.length cap4)).setCell (a:=⟨b,2,none⟩) (fun _=>hSb) (.slice R4 s1.roots.length rc4)).setCell (a:=⟨b,3,none⟩) (fun _=>hSb) (.pointer (some ⟨tp,0,none⟩))
   have ho5:=qAd (qAd (qAd (qAd HOB.out.1 0 (.pointer (some ⟨bd4,0,none⟩))) 1 (.slice A4 zs4.length cap4)) 2 (.slice R4 s1.roots.length rc4)) 3 (.pointer (some ⟨tp,0,none⟩))
   refine ⟨_,_,qAy c4 b .sto,rfl,e5w,?_⟩
   rw [HDL.out]
   exact ⟨(HX4.out.moved HOB.out.2 e5 ho5 hc5).shut,(HT4.out.ext ep rfl rfl).ext e5 rfl rfl,rfl,rfl⟩
end
theorem qOp:qCy 4 (.bool false) 1 1:=qCF (by kernel_rfl) rfl (by decide)
theorem qLu (n:Nat):(madeCells (Value.bool false).cells (n*1)).toList=(List.replicate n false).map Value.bool:=by
 rw [List.map_replicate]
 refine List.eq_replicate_iff.2 ⟨by simp [madeCells],fun x hx=>?_⟩
 simp only [madeCells,Array.toList_map,zb] at hx
 obtain ⟨k,_,rfl⟩:=hx
 simp [Value.cells,Nat.mod_one]
def qO8 (n:Nat) (w:World) (c:Nat→Col) (e:Ending) (w':World):Prop :=
 ∃ (b:Nat) (c2:Nat→Col),e=.returned (.tuple #[.pointer (some ⟨b,0,none⟩),.nilIface])∧Below w.heap.size w w'∧SpaceAt w' c2 b (List.replicate n false)∧∀ k,k<w.heap.size→c2 k=c k
theorem qOS (n:Nat) (h1:1≤n) (h2:n≤512) (w:World) (c:Nat→Col) :
  Calls Tryz.prog 30 #[.int .i64 n] w (qO8 n w c):=by
 have i1:¬ (n:Int)<1:=by omega
 have i2:¬ (512:Int)<(n:Int):=by omega
 obtain ⟨i0,hi,hz0,hz1,hz2⟩:=qOp.info
 obtain ⟨w1,hmk,hown,hg⟩:=run_makeSlice_full (P:=Tryz.prog) w 0 138 4 i0 (.bool false) 1 Tryz.underlying138 hi hz0 hz1 .i64 .i64 n (by omega) (by rw [hz2];omega) (by unfold maxLen;omega) (zw _)
 have HOWN:=Hh hown
 have HG:=Hh hg
 have HB:=Hh ((zB w.heap.size w).grown hg (zo _) (fun k hk=>by cases hk))
 clear hi hz0 hz1 hz2 hown hg
 go_enter Tryz.func30,Tryz.ntmps30
 go_wp2_with fail
 go_ret2
 have hgl:w.heap.size<w1.heap.size:=(HOWN.out.lt w.heap.size rfl).2
 refine ⟨w1.heap.size,qAy (qAy c w.heap.size .used) w1.heap.size .space,rfl,HB.out.alloc HB.out.size _,⟨_,zJ1 w1 _,qAm _ _ _,?_⟩,fun k hk=>?_⟩
 ·rw [List.length_replicate]
  refine ⟨?_,fun k hk=>?_⟩
  ·have h:=HOWN.out
   rw [qLu] at h
   exact h.kept (Below.toGrown ((zB _ w1).alloc (zo _) _) none) (by cases Value.ownBlock (Value.slice (some ⟨w.heap.size,0,none⟩) n n)<;>simp)
  ·simp [Value.ownBlock] at hk
   subst hk
   rw [qAh hgl (zo _),qAm]
 ·rw [qAh (Nat.lt_trans hk hgl) (zo _),qAh hk (zo _)]
def qOz (T:Tab) (w:World) (c:Nat→Col) (e:Ending) (w':World):Prop :=
 ∃ (b:Nat) (c2:Nat→Col),e=.returned (.tuple #[.pointer (some ⟨b,0,none⟩),.nilIface])∧Below w.heap.size w w'∧DirsAt w' c2 b ⟨T,[],0⟩∧∀ k,k<w.heap.size→c2 k=c k
theorem qPb {w:World} {c:Nat→Col} {bt:Nat} {T:Tab} (h:TabAt w c bt T) :
  Calls Tryz.prog 15 #[.pointer (some ⟨bt,0,none⟩)] w (qOz T w c):=by
 have hmm:=@run_makeMap Tryz.prog
 have HT:=Hh h
 clear h
 go_enter Tryz.func15,Tryz.ntmps15
 go_wp2_with fail
 go_ret2
 have hb1:Below w.heap.size w (w.alloc (.map #[] 0)):=(zB _ w).alloc (zo _) _
 have e1:Ext w (w.alloc (.map #[] 0)) c (qAy c w.heap.size .dirsMap) S0:=Ext.made w c S0 _ _
 have e2:=Ext.made (w.alloc (.map #[] 0)) (qAy c w.heap.size .dirsMap) S0 (.cells #[.pointer (some ⟨bt,0,none⟩),.map (some w.heap.size),.int .i64 0] 94) .dirs
 have e3:=e1.trans e2
 refine ⟨(w.alloc (.map #[] 0)).heap.size,qAy (qAy c w.heap.size .dirsMap) (w.alloc (.map #[] 0)).heap.size .dirs,by simp,hb1.alloc (by simp) _,⟨bt,w.heap.size,fun _=>[],fun _=>0,?_⟩,fun k hk=>?_⟩
 ·refine ⟨zJ1 _ _,qAm _ _ _,HT.out.ext e3 rfl (fun _ _=>rfl),?_,?_,(fun k e he=>by cases he),(fun k e he=>by cases he),(fun k e he=>by cases he)⟩
  ·rw [qAh (n:=(w.alloc (.map #[] 0)).heap.size) (by simp) (zo _),qAm]
  ·exact (zzMapAt.made w Tryz.prog 3 qKD).ext e2 (qAm _ _ _) rfl
 ·rw [qAh (n:=w.heap.size) hk (by simp),qAh hk (zo _)]
def qNX (D:List (List UInt8)) (w:World) (c:Nat→Col) (e:Ending) (w':World):Prop :=
 ∃ (b:Nat) (c2:Nat→Col),e=.returned (.tuple #[.pointer (some ⟨b,0,none⟩),.nilIface])∧Below w.heap.size w w'∧TabAt w' c2 b ⟨D,[]⟩∧∀ k,k<w.heap.size→c2 k=c k
theorem qPC {w:World} {c:Nat→Col} {bd:Nat} {D:List (List UInt8)} (h:DiskAt w c bd D) (h1:1≤D.length) (h2:D.length≤512) :
  Calls Tryz.prog 14 #[.pointer (some ⟨bd,0,none⟩)] w (qNX D w c):=by
 have hmm:=@run_makeMap Tryz.prog
 have HD:=Hh h
 have HLN:=Hh (qOV h)
 have HSN:=Hh (qOS D.length h1 h2 w c)
 clear h
 go_enter Tryz.func14,Tryz.ntmps14
 go_upto_region 6 with (first
  | (go_at_call 31;refine HLN.out.mono ?_;rintro ev w2 ⟨rfl,hw2⟩;have hw3:w=w2:=hw2.symm;clear hw2;subst hw3)
  | (go_at_call 30;refine HSN.out.mono ?_;rintro ev w3 ⟨bs,c3,rfl,hb3,hs3,hc3⟩;have HB3:=Hh hb3;have HS3:=Hh hs3;have HC3:=Hh hc3;clear hb3 hs3 hc3))
 go_wp2_with fail
 go_ret2
 have hb1:Below w3.heap.size w3 (w3.alloc (.map #[] 0)):=(zB _ w3).alloc (zo _) _
 have e0:Ext w w3 c c3 S0:=(Ext.of_below HB3.out c S0).recolor fun b hb _=>HC3.out b hb
 have e1:Ext w3 (w3.alloc (.map #[] 0)) c3 (qAy c3 w3.heap.size .tabMap) S0:=Ext.made w3 c3 S0 _ _
 have e2:=Ext.made (w3.alloc (.map #[] 0)) (qAy c3 w3.heap.size .tabMap) S0 (.cells #[.pointer (some ⟨bd,0,none⟩),.pointer (some ⟨bs,0,none⟩),.map (some w3.heap.size)] 91) .tab
 have e3:=e1.trans e2
 refine ⟨(w3.alloc (.map #[] 0)).heap.size,qAy (qAy c3 w3.heap.size .tabMap) (w3.alloc (.map #[] 0)).heap.size .tab,by simp,HB3.out.trans ((hb1.alloc (by simp) _).mono HB3.out.size),⟨bd,bs,w3.heap.size,fun _=>0,?_⟩,fun k hk=>?_⟩
 ·refine ⟨zJ1 _ _,qAm _ _ _,HD.out.ext (e0.trans e3) rfl rfl,?_,?_,?_,fun k x hx=>?_⟩
  ·have hu:qAY ⟨D,[]⟩=List.replicate D.length false:=by
    unfold qAY Tab.isUsed
    simp only [List.any_nil]
    exact List.eq_replicate_iff.2 ⟨by simp,fun x hx=>by
     obtain ⟨k,_,rfl⟩:=zb.1 hx
     rfl⟩
   rw [hu]
   exact HS3.out.ext e3 rfl rfl
  ·rw [qAh (n:=(w3.alloc (.map #[] 0)).heap.size) (by simp) (zo _),qAm]
  ·refine ((zzMapAt.made w3 Tryz.prog 3 qKD).ext e2 (qAm _ _ _) rfl).congr fun k=>?_
   simp [qAH,Tab.at_]
  ·simp [Tab.at_] at hx
 ·have hlt:k<w3.heap.size:=zt hk HB3.out.size
  rw [qAh (n:=w3.heap.size) hlt (by simp),qAh hlt (zo _)]
  exact HC3.out k hk
end Go.Proofs.YtkcjmccdkeigmaaGreatDoor
