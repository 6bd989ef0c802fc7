/- Texts of this claim, merged: OncePure, GonePure, StoDo, News. -/
import Derived.Test.YthogfjmnnaoldaaGreatDoorGm43
set_option maxHeartbeats 16000000
set_option maxRecDepth 1000000
set_option linter.all false
namespace Stl
def qAW (t:Tab):Prop:=∀ n x,t.at_ n=some x→∃ b,t.read n=.ok b
theorem qLy {t t':Tab} {data:Bytes} {exec:Bool} {n:Nat} (ht:qBj t) (hc:qAW t) (h:t.make data exec=.ok (n,t')):qAW t':=by
 intro m x hx
 by_cases e:m=n
 ·rw [e];exact ⟨_,qIv ht h⟩
 ·rw [qC5 ht h e]
  rw [qDl h,zM1 e] at hx
  exact hc m x hx
theorem qK4 {t t':Tab} {n:Nat} (hc:qAW t) (h:t.link n=.ok t'):qAW t':=by
 intro m x hx
 rw [qIV h]
 obtain ⟨y,hy,_⟩:=qBV h
 rw [qDS hy h] at hx
 split at hx
 ·rename_i e;rw [e];exact hc n y hy
 ·exact hc m x hx
theorem qET {t t':Tab} {n:Nat} (hc:qAW t) (h:t.unlink n=.ok t'):qAW t':=by
 intro m x hx
 rw [qDN h (by rw [hx];rfl)]
 obtain ⟨y,hy,_⟩:=qBp h
 rw [qDi hy h] at hx
 split at hx
 ·rename_i e;rw [e];exact hc n y hy
 ·exact hc m x hx
theorem qD6:∀ (xs:List It) (t:Tab) (f:List (Bytes×Nat)) (t':Tab),qBj t→qAW t→makeAll t xs=.ok (f,t')→qAW t'
 | [],t,f,t',ht,hc,h=>by
  simp only [makeAll] at h
  injection h with h
  injection h with _ h
  subst h
  exact hc
 | x::r,t,f,t',ht,hc,h=>by
  simp only [makeAll] at h
  cases hm:t.make x.n.data x.n.exec with
  | error e=>rw [hm] at h;cases h
  | ok q =>
   obtain ⟨n,t1⟩:=q
   rw [hm] at h
   simp only at h
   cases ha:makeAll t1 r with
   | error e=>rw [ha] at h;cases h
   | ok q2 =>
    obtain ⟨l,t2⟩:=q2
    rw [ha] at h
    injection h with h
    injection h with _ h2
    subst h2
    exact qD6 r t1 l t2 (qJO ht hm) (qLy ht hc hm) ha
theorem qBY:∀ (f:List (Bytes×Nat)) (t:Tab),qAW t→qAW (qAf t f)
 | [],t,h=>h
 | (s,n)::r,t,h=>by
  simp only [qAf]
  cases hu:t.unlink n with
  | error e=>exact qBY r t h
  | ok t1=>exact qBY r t1 (qET h hu)
theorem qMq {d d':Dirs} {n:Nd} {k:Nat} (hd:qAD d) (hc:qAW d.t) (h:d.put n=.ok (k,d')):qAW d'.t:=by
 obtain ⟨_,_,_,f,t,hm,rfl⟩:=qF3 h
 exact qD6 _ _ _ _ hd.tab hc hm
theorem qKX {d d':Dirs} {k:Nat} (hc:qAW d.t) (h:d.drop k=.ok d'):qAW d'.t:=by
 unfold Dirs.drop at h
 cases he:qAh d.l k with
 | none=>rw [he] at h;cases h
 | some e=>rw [he] at h;injection h with h;subst h;exact qBY _ _ hc
theorem qLD {d d':Dirs} (hd:qAD d) (hc:qAW d.t) (h:d.step=some d'):qAW d'.t:=by
 obtain ⟨_,_,_,_,_,_,_,_,_,_,h1,h2,rfl⟩:=qEQ hd h
 exact qET (qK4 hc h1) h2
theorem qFQ:∀ (f:Nat) (d:Dirs),qAD d→qAW d.t→qAW (Dirs.merge f d).2.t
 | 0,d,_,hc=>hc
 | f+1,d,hd,hc=>by
  unfold Dirs.merge
  cases hs:d.step with
  | none=>exact hc
  | some d1=>exact qFQ f d1 (step_ok hd hs).1 (qLD hd hc hs)
theorem qBJ:∀ (dead:List Bytes) (d:Dirs) (l:List Pk),qAW d.t→qAW (qAq d l dead).1.t
 | [],d,l,h=>h
 | nm::r,d,l,h=>by
  simp only [qAq]
  split
  ·exact qBJ r d l h
  ·rename_i p _
   cases hd:d.drop p.k with
   | error e=>exact qBJ r d _ h
   | ok d1=>exact qBJ r d1 _ (qKX h hd)
mutual
theorem qGr {t:Tab} {f:List (Bytes×Nat)}:∀ (n:Nd) (p:Bytes) (d:Nat),(∀ x∈flat n p d,x.n.kind=kFile→∃ b,t.read ((qAG f (told x.path)).getD 0)=.ok b)→∃ m,qA6 t f n p=.ok m
 | .mk k s e ks,p,d,h=>by
  obtain ⟨l,hl⟩:=qDF (t:=t) (f:=f) ks p (d+1) (fun x hx=>h x (by simp [flat,hx]))
  unfold qA6
  by_cases hk:k=kFile
  ·obtain ⟨b,hb⟩:=h ⟨p,d,.mk k s e ks⟩ (by simp [flat]) hk
   rw [zN1 hk,hb];exact ⟨_,rfl⟩
  ·rw [zM1 hk,hl];exact ⟨_,rfl⟩
theorem qDF {t:Tab} {f:List (Bytes×Nat)}:∀ (l:List (Bytes×Nd)) (p:Bytes) (d:Nat),(∀ x∈flatL l p d,x.n.kind=kFile→∃ b,t.read ((qAG f (told x.path)).getD 0)=.ok b)→∃ m,qAZ t f l p=.ok m
 | [],_,_,_=>⟨[],rfl⟩
 | (nm,y)::r,p,d,h=>by
  obtain ⟨a,ha⟩:=qGr (t:=t) (f:=f) y (p++47::nm) d (fun x hx=>h x (by simp [flatL,hx]))
  obtain ⟨b,hb⟩:=qDF (t:=t) (f:=f) r p d (fun x hx=>h x (by simp [flatL,hx]))
  unfold qAZ
  rw [ha,hb];exact ⟨_,rfl⟩
end
theorem qMp {d:Dirs} (hd:qAD d) (hc:qAW d.t) {e:Ent} (he:e∈d.l):∃ n,d.get e.k=.ok n:=by
 unfold Dirs.get
 rw [qAs hd.keys he]
 refine qGr e.n [] 0 fun x hx hk=>?_
 obtain ⟨m,h1,_,h3⟩:=qFw hd he hx hk
 obtain ⟨y,hy⟩:=zA1.1 h3
 rw [h1]
 exact hc m y hy
def Sto.packs (s:Sto):Except Nat (List (Pk×Nd)):=s.l.mapM fun p=>(s.d.get p.k).map fun n=>(p,n)
theorem qGP {α β:Type} (f:α→Except Nat β):∀ (l:List α),(∀ x∈l,∃ y,f x=.ok y)→∃ m,l.mapM f=.ok m
 | [],_=>⟨[],rfl⟩
 | x::r,h=>by
  obtain ⟨y,hy⟩:=h x (by simp)
  obtain ⟨m,hm⟩:=qGP f r (fun z hz=>h z (by simp [hz]))
  exact ⟨y::m,by rw [List.mapM_cons,hy,hm];rfl⟩
theorem qJm {s:Sto} (hs:qCo s) (hc:qAW s.d.t):∃ l,s.packs=.ok l:=by
 refine qGP _ _ fun p hp=>?_
 have:p.k∈s.l.map (·.k):=zg (f:=(·.k)) hp
 rw [hs.ks] at this
 obtain ⟨e,he,e2⟩:=zf.1 this
 obtain ⟨n,hn⟩:=qMp hs.dirs hc he
 rw [e2] at hn
 exact ⟨(p,n),by rw [hn];rfl⟩
theorem qLs {t:Tab} (hc:qAW t) (n:Nat) (data:Bytes) (t':Tab):t.mend n data≠.ok t':=by
 unfold Tab.mend
 cases hx:t.at_ n with
 | none=>intro h;cases h
 | some x =>
  simp only
  split
  ·intro h;cases h
  ·obtain ⟨b,hb⟩:=hc n x hx
   rw [hb]
   intro h
   cases h
theorem qIE {s s':Sto} {line a:Bytes} (hs:qCo s) (hc:qAW s.d.t) (hn:∀ r,cutAt 32 line≠some ([114,111,116],r)) (h:s.change line=some (.ok (a,s'))):qAW s'.d.t:=by
 unfold Sto.change at h
 split at h
 ·injection h with h;injection h with h;injection h with _ h;subst h;exact qBJ _ _ _ hc
 ·split at h
  ·injection h with h;injection h with h;injection h with _ h;subst h;exact qFQ _ _ hs.dirs hc
  ·cases hcut:cutAt 32 line with
   | none=>rw [hcut] at h;cases h
   | some q =>
    obtain ⟨word,rest⟩:=q
    rw [hcut] at h
    simp only at h
    split at h
    ·cases ha:s.add rest with
     | error e=>rw [ha] at h;cases h
     | ok x =>
      rw [ha] at h;injection h with h;injection h with h;injection h with _ h;subst h
      unfold Sto.add at ha
      split at ha
      ·cases ha
      ·split at ha
       ·cases ha
       ·split at ha
        ·cases ha
        ·split at ha
         ·cases ha
         ·split at ha
          ·cases ha
          ·simp only at ha
           split at ha
           ·cases ha
           ·split at ha
            ·cases ha
            ·rename_i k d hp
             cases ha
             exact qMq hs.dirs hc hp
    ·split at h
     ·injection h with h
      split at h
      ·cases h
      ·split at h
       ·cases h
       ·injection h with h;injection h with _ h;subst h;exact hc
     ·split at h
      ·injection h with h
       split at h
       ·injection h with h;injection h with _ h;subst h;exact hc
       ·cases h
      ·split at h
       ·rename_i hw
        subst hw
        exact absurd hcut (hn rest)
       ·split at h
        ·injection h with h
         split at h
         ·cases h
         ·split at h
          ·rename_i n _
           cases hm:s.d.t.mend n _ with
           | error e=>rw [hm] at h;cases h
           | ok t=>exact absurd hm (qLs hc _ _ _)
          ·cases h
        ·cases h
structure qCV (i:Nat) (s:Sto) (t:Tape):Prop where
 sto:qCo s
 clean:qAW s.d.t
 disk:s.d.t.disk.length=200
 inos:s.d.t.l.length≤200*i
 next:s.d.next≤i
 ents:s.d.l.length≤i
 off:t.off=false
 cut:t.cut=none
 len:t.b.length≤300*i
theorem qK6:qCV 0 (Sto.new 200) ⟨[],false,none⟩:=by
 refine ⟨qL2 200,fun n x h=>?_,?_,zr _,zr _,zr _,rfl,rfl,zr _⟩
 ·simp [Sto.new,Tab.at_] at h
 ·exact List.length_replicate
theorem qMK:∀ n,n≤250→(dec n).length≤3:=by decide +kernel
theorem qB5 {line:Bytes} (h:line.length≤250):(record line).length≤300:=by
 have:=qMK _ h
 simp only [record,zQ,zS,List.length_nil]
 omega
theorem qCT {t:Tape} {line:Bytes} (h:line.length≤250) (h1:t.off=false) (h2:t.cut=none) (h3:t.b.length≤100000):t.append line=(0,{ t with b:=t.b++record line }):=by
 have hr:=qB5 h
 unfold Tape.append
 rw [zM1 (by omega),zM1 (by omega),zM1 (by rw [h1];decide),h2]
theorem qIq {i:Nat} {s:Sto} {t:Tape} (h:qCV i s t) (hi:i≤100) {line:Bytes} (hl:line.length≤250) (hn:∀ r,cutAt 32 line≠some ([114,111,116],r)):qCV (i+1) (qAE s t line).2.1 (qAE s t line).2.2:=by
 have up:qCV (i+1) s t:=⟨h.sto,h.clean,h.disk,by have:=h.inos;omega,by have:=h.next;omega,by have:=h.ents;omega,h.off,h.cut,by have:=h.len;omega⟩
 unfold qAE
 cases hc:s.change line with
 | none=>exact up
 | some q =>
  cases q with
  | error e=>exact up
  | ok q =>
   obtain ⟨a,s1⟩:=q
   simp only
   rw [qCT hl h.off h.cut (by have:=h.len;omega)]
   rw [zN1 rfl]
   have hr:=qB5 hl
   have hz:=qFm hc
   show qCV (i+1) s1 { t with b:=t.b++record line }
   refine ⟨qJc h.sto hc,qIE h.sto h.clean hn hc,hz.disk.trans h.disk,by have:=hz.inos;have:=h.inos;omega,by have:=hz.next;have:=h.next;omega,by have:=hz.ents;have:=h.ents;omega,h.off,h.cut,?_⟩
   have:=h.len
   simp only [zQ]
   omega
theorem qNP {i:Nat} {s:Sto} {t:Tape} (h:qCV i s t) (hi:i≤100):qAE s t [103,99]=(.ok (dec s.gc.1),s.gc.2,{ t with b:=t.b++record [103,99] }):=by
 unfold qAE
 have:s.change [103,99]=some (.ok (dec s.gc.1,s.gc.2)):=by
  unfold Sto.change
  rw [zN1 rfl]
 rw [this]
 simp only
 rw [qCT (by decide) h.off h.cut (by have:=h.len;omega)]
 rw [zN1 rfl]
theorem qGY {α:Type}:∀ {a b:List α},a.Nodup→(∀ x∈a,x∈b)→a.length≤b.length
 | [],_,_,_=>zy _
 | x::r,b,hp,h=>by
  obtain ⟨h1,h2⟩:=List.nodup_cons.1 hp
  obtain ⟨l,m,rfl⟩:=List.append_of_mem (h x (by simp))
  have:=qGY (a:=r) (b:=l++m) h2 (fun y hy=>by
   have:=h y (by simp [hy])
   simp only [zZ,za] at this ⊢
   rcases this with h3 | h3 | h3
   ·exact .inl h3
   ·exact absurd (h3▸hy) h1
   ·exact .inr h3)
  simp at this ⊢
  omega
theorem qOL {s:Sto} (hs:qCo s):s.gc.2.gc.1=0:=by
 obtain ⟨g1,g2,g3,_,_⟩:=qNM hs
 show (qBg s.gc.2.l s.gc.2.roots).length=0
 rw [g3]
 have hin:=qBH g1.pks.refs (names:=s.roots) (fun x hx=>by have:=g1.roots x (by rw [g3];exact hx);exact this)
 have hsub:∀ x∈closure s.l s.roots,x∈closure s.gc.2.l s.roots:=by
  refine qCJ (fun x=>x∈closure s.gc.2.l s.roots) (qCG _ _) fun p hp h1 x hx=>?_
  obtain ⟨q,hq,e⟩:=zf.1 (hin _ h1)
  have hq0:q∈s.l:=by rw [g2] at hq;exact (zb.1 hq).1
  have:q=p:=qAQ (fun z:Pk=>z.name) hs.pks.names hq0 hp e
  subst this
  exact qCj g1.pks.names g1.pks.refs s.roots q hq h1 x hx
 have:qBg s.gc.2.l s.roots=[]:=by
  rw [List.eq_nil_iff_forall_not_mem]
  intro x hx
  obtain ⟨h1,h2⟩:=qCr.1 hx
  obtain ⟨q,hq,rfl⟩:=zf.1 h1
  rw [g2] at hq
  have:=(zb.1 hq).2
  rw [List.contains_iff_mem] at this
  exact h2 (hsub _ this)
 rw [this]
 rfl
theorem qK0 {s:Sto} (hs:qCo s):(s.l.filter fun p=>(closure s.l s.roots).contains p.name).length=(closure s.l s.roots).length:=by
 have hin:=qBH hs.pks.refs (names:=s.roots) hs.roots
 have hr:(closure s.l s.roots).Nodup:=List.Pairwise.imp (fun {a b} (h:a<b) e=>by subst e;exact List.lt_irrefl _ h) (qDn s.l s.roots)
 have hf:((s.l.filter fun p=>(closure s.l s.roots).contains p.name).map (·.name)).Nodup:=(List.filter_sublist.map _).nodup hs.pks.names
 have e:(s.l.filter fun p=>(closure s.l s.roots).contains p.name).length=((s.l.filter fun p=>(closure s.l s.roots).contains p.name).map (·.name)).length:=by simp
 rw [e]
 apply Nat.le_antisymm
 ·refine qGY hf fun x hx=>?_
  obtain ⟨p,hp,rfl⟩:=zf.1 hx
  have:=(zb.1 hp).2
  rwa [List.contains_iff_mem] at this
 ·refine qGY hr fun x hx=>?_
  obtain ⟨p,hp,rfl⟩:=zf.1 (hin x hx)
  exact zf.2 ⟨p,zb.2 ⟨hp,by rw [List.contains_iff_mem];exact hx⟩,rfl⟩
theorem qFu {α β:Type} (f g:α→Except Nat β) (P:α→Bool) (Q:β→Bool):∀ (l:List α) (m:List β),(∀ x∈l,P x=true→g x=f x)→(∀ x∈l,∀ y,f x=.ok y→Q y=P x)→l.mapM f=.ok m→(l.filter P).mapM g=.ok (m.filter Q)
 | [],m,_,_,h=>by cases h;rfl
 | x::r,m,h1,h2,h=>by
  rw [List.mapM_cons] at h
  cases hx:f x with
  | error e=>rw [hx] at h;cases h
  | ok y =>
   rw [hx] at h
   cases hr:r.mapM f with
   | error e=>rw [hr] at h;cases h
   | ok m' =>
    rw [hr] at h
    cases h
    have ih:=qFu f g P Q r m' (fun z hz=>h1 z (by simp [hz])) (fun z hz=>h2 z (by simp [hz])) hr
    have hq:=h2 x (by simp) y hx
    cases hp:P x with
    | true =>
     rw [zL hp,zL (by rw [hq,hp]),List.mapM_cons,h1 x (by simp) hp,hx,ih]
     rfl
    | false =>
     rw [zK (by simp [hp]),zK (by rw [hq,hp];decide)]
     exact ih
theorem qKW {s:Sto} (hs:qCo s) {m:List (Pk×Nd)} (h:s.packs=.ok m):s.gc.2.packs=.ok (m.filter fun x=>(closure s.l s.roots).contains x.1.name):=by
 obtain ⟨g1,g2,g3,_,g5⟩:=qNM hs
 unfold Sto.packs
 rw [g2]
 refine qFu _ _ _ _ s.l m (fun p hp hq=>?_) (fun p hp y hy=>?_) h
 ·rw [g5 p (by rw [g2];exact zb.2 ⟨hp,hq⟩)]
 ·cases hg:s.d.get p.k with
  | error e=>rw [hg] at hy;cases hy
  | ok n=>rw [hg] at hy;cases hy;rfl
end Stl
namespace Go.Proofs.YthogfjmnnaoldaaGreatDoor
open Go.RowKit Go.Sort Go.Shelf Stl
theorem qIK {p:Nat→Addr} (e:Addr) (w:World) (hE:Errs w p) :
  Calls Tryz.prog 23 #[.iface 371 (.pointer (some e))] w fun ev w'=>ev=.returned (.iface 371 (.pointer (some e)))∧Below w.heap.size w w':=by
 have hb1:=(zC w.heap.size w).alloc (zr _) (.cells #[.pointer none] 113)
 have HB1:=Hh hb1
 have HAS:=Hh (qQ9 e ⟨w.heap.size,0,none⟩ (w.alloc (.cells #[.pointer none] 113)) (hE.later hb1).ety.1)
 clear hE hb1
 go_enter Tryz.func23,Tryz.ntmps23
 go_wp2_with (go_at_call 54;refine HAS.out.mono ?_;rintro ev w2 ⟨rfl,hb2⟩;have HB2:=Hh (HB1.out.trans (hb2.mono HB1.out.size));clear hb2)
 go_ret
 exact ⟨rfl,HB2.out⟩
def Sdo:Col→Bool:=fun y=>!(decide (y=.ro)||decide (y=.dead))
def kDo (c:Nat→Col):Nat→Col:=fun k=>if c k=.ro then .ro else if c k=.tape then .tape else if c k=.tapeL then .tapeL else .dead
def qOk:Col→Bool:=fun y=>!(decide (y=.ro)||decide (y=.tape)||decide (y=.tapeL)||decide (y=.dead))
theorem qOm {c:Nat→Col} {k:Nat} (h:qOk (c k)=false):kDo c k=c k:=by
 unfold kDo qOk at *
 cases hc:c k<;>simp [hc] at h ⊢
theorem qQj (c:Nat→Col) (k:Nat):qD1 (kDo c k)=false:=by
 unfold kDo
 split
 ·rfl
 ·split
  ·rfl
  ·split<;>rfl
theorem qLe {p:Nat→Addr} {w:World} {c:Nat→Col} {b tp:Nat} {cd:Nat} {a:ByteArray} {er:Value} {w':World} (h:ChPost p w c b tp (.error cd) (.returned (.tuple #[.string a,er])) w'):(er=qAN p cd∧cd≠0)∧∃ c2,Ext w w' c c2 qD1:=by
 obtain ⟨a',er',c2,hev,he,hm⟩:=h
 have:er=er':=by
  injection hev with hev
  injection hev with hev
  have:=congrArg (fun x:Array Value=>x[1]?) hev
  simpa using this
 exact ⟨this▸hm,c2,he⟩
theorem qMy {p:Nat→Addr} {w:World} {c:Nat→Col} {b tp:Nat} {q:List UInt8×Sto} {a:ByteArray} {er:Value} {w':World} (h:ChPost p w c b tp (.ok q) (.returned (.tuple #[.string a,er])) w'):(er=.nilIface∧a=⟨q.1.toArray⟩)∧∃ c2,Ext w w' c c2 qD1∧StoAt w' c2 b q.2 tp:=by
 obtain ⟨a',er',c2,hev,he,h1,h2,h3⟩:=h
 have e1:er=er':=by
  injection hev with hev
  injection hev with hev
  have:=congrArg (fun x:Array Value=>x[1]?) hev
  simpa using this
 have e2:a=a':=by
  injection hev with hev
  injection hev with hev
  have:=congrArg (fun x:Array Value=>x[0]?) hev
  simpa using this
 exact ⟨⟨e1▸h1,e2▸h2⟩,c2,he,h3⟩
def qQJ (p:Nat→Addr) (w:World) (c:Nat→Col) (b tp:Nat) (s:Sto) (t:Stl.Tape) (line:List UInt8) (ev:Ending) (w':World):Prop :=
 ∃ (a:ByteArray) (er:Value) (c2:Nat→Col),ev=.returned (.tuple #[.string a,er])∧Ext w w' c c2 Sdo∧StoAt w' c2 b (qAE s t line).2.1 tp∧TapeAt w' c2 tp (qAE s t line).2.2 ∧
  match (qAE s t line).1 with
  | .error cd=>er=qAN p cd∧cd≠0∧a=⟨#[]⟩
  | .ok x=>er=.nilIface∧a=⟨x.toArray⟩
section
variable {w:World} {A:Option Addr} {zs:List PkX} {c:Nat→Col} {b:Nat} {s:Sto} {bd:Nat} {cap:Nat} {R:Option Addr} {rc tp:Nat} {p:Nat→Addr}
theorem StoX.moved {w2:World} {c2:Nat→Col} {b2:Nat} (h:StoX w c b s bd A cap zs R rc tp) (hd:c b2=.dead) (e:Ext w w2 (qAz c b2 .sto) c2 (S1 .sto)) (ho:w2.heap[b2]?=some (.cells #[.pointer (some ⟨bd,0,none⟩),.slice A zs.length cap,.slice R s.roots.length rc,.pointer (some ⟨tp,0,none⟩)] 64 (0,0))) (hc:c2 b2=.sto) :
  StoX w2 c2 b2 s bd A cap zs R rc tp:=by
 have e1:Ext w w c (qAz c b2 .sto) (S1 .dead):=Ext.paint w hd .sto
 refine ⟨ho,hc,(h.dirs.ext e1 rfl (fun x hx=>qBk (by intro e;subst e;cases hx))).ext e rfl (fun x hx=>qBk (by intro e;subst e;cases hx)),(h.packs.ext e1 rfl).ext e rfl,h.eq,fun x hx=>⟨(h.ro x hx).1,((h.ro x hx).2.ext e1 rfl).ext e rfl⟩,(h.roots.ext e1 rfl).ext e rfl⟩
theorem qQL {t:Stl.Tape} (h:StoX w c b s bd A cap zs R rc tp) (ht:TapeAt w c tp t) (hg:qAX s) (hE:Env w c p) (line:List UInt8) (hr:line.length≤20000) (h1:t.off=false) (h2:t.cut=none) (h3:t.b.length+(record line).length≤1048576) :
  Calls Tryz.prog 8 #[.pointer (some ⟨b,0,none⟩),.string ⟨line.toArray⟩] w (qQJ p w c b tp s t line):=by
 have hfew:=h.few hg.ok
 have H:=Hh h
 have HT:=Hh ht
 have HG:=Hh hg
 have HE:=Hh hE
 have HOF:=Hh h1
 have HCU:=Hh h2
 have HCO:=Hh (qLW (kDo c) (fun k hk=>by unfold kDo;rw [zN1 hk]) h hg.good (by omega) (by have:=qCt hg.ok;omega))
 have HAP:=Hh (show t.append line=(0,{ t with b:=t.b++record line }) from by
  unfold Tape.append
  rw [zM1 (by omega),zM1 (by omega),zM1 (by rw [h1];decide),h2])
 obtain ⟨chg,hchg⟩:∃ chg,chg=s.change line:=⟨_,rfl⟩
 have HCH:=Hh hchg
 have hbl:=qAa h.own
 clear h ht hg hE h1 h2
 go_enter Tryz.func8,Tryz.ntmps8
 go_upto_region 2 with (go_at_call 19;refine HCO.out.mono ?_;rintro ev w2 ⟨b2,c2,rfl,hb2,hc2,hge2,hst2⟩;have HB2:=Hh hb2;have HC2:=Hh hc2;have HST2:=Hh hst2;clear hb2 hc2 hst2)
 have he2:Ext w w2 c c2 qOk:=(Ext.of_below HB2.out c qOk).recolor fun k hk hs=>(HC2.out k hk).trans (qOm hs)
 have HE2:=Hh he2
 have HEN2:=Hh (HE.out.ext he2 rfl)
 obtain ⟨bd2,A2,cap2,zs2,R2,rc2,hx2⟩:=HST2.out.open
 have HX2:=Hh hx2
 have HLOW:=Hh (show ∀ k,k<w.heap.size→qD1 (c2 k)=false from fun k hk=>by rw [HC2.out k hk];exact qQj c k)
 have HCC:=Hh (qH8 hx2 HG.out HEN2.out line (by omega))
 rw [← hchg] at HCC
 clear he2 hx2 hchg
 cases chg with
 | none =>
  have HDL:=Hh (show qAE s t line=(s.tell line,s,t) from by unfold qAE;rw [← HCH.out])
  go_upto_region 4 with (go_at_call 20;refine HCC.out.mono ?_;rintro ev w3 ⟨a3,er3,is3,rfl,rfl,rfl,hb3⟩;have HB3:=Hh hb3;clear hb3)
  have HTL:=Hh (qPe (HX2.out.below HB3.out) HG.out (HEN2.out.below HB3.out) line (by omega))
  have HB23:=Hh (HB2.out.trans (HB3.out.mono HB2.out.size))
  cases htl:s.tell line with
  | error cd =>
   rw [htl] at HTL HDL
   clear htl
   go_upto_region 5 with (go_at_call 21;refine HTL.out.mono ?_;rintro ev w4 ⟨a4,er4,rfl,hb4,rfl,hcd⟩;have HB4:=Hh (HB23.out.trans (hb4.mono HB23.out.size));have HEO:=Hh (qAc p hcd);have HCD:=Hh hcd;clear hb4 hcd)
   rw [HEO.out]
   have HBR:=Hh (qIK (p cd) w4 (HE.out.below HB4.out).errs)
   go_wp2_with (go_at_call 23;refine HBR.out.mono ?_;rintro ev w5 ⟨rfl,hb5⟩;have HB5:=Hh (HB4.out.trans (hb5.mono HB4.out.size));clear hb5)
   go_ret2
   refine ⟨_,_,c,rfl,Ext.of_below HB5.out c Sdo,?_⟩
   rw [HDL.out]
   exact ⟨(H.out.below HB5.out).shut,HT.out.ext (Ext.of_below HB5.out c S0) rfl rfl,by rw [HEO.out];rfl,HCD.out,rfl⟩
  | ok x =>
   rw [htl] at HTL HDL
   clear htl
   go_upto_region 5 with (go_at_call 21;refine HTL.out.mono ?_;rintro ev w4 ⟨a4,er4,rfl,hb4,rfl,rfl⟩;have HB4:=Hh (HB23.out.trans (hb4.mono HB23.out.size));clear hb4)
   go_wp2
   go_ret2
   refine ⟨_,_,c,rfl,Ext.of_below HB4.out c Sdo,?_⟩
   rw [HDL.out]
   exact ⟨(H.out.below HB4.out).shut,HT.out.ext (Ext.of_below HB4.out c S0) rfl rfl,rfl,rfl⟩
 | some res =>
  cases res with
  | error cd =>
   have HDL:=Hh (show qAE s t line=(.error cd,s,t) from by unfold qAE;rw [← HCH.out])
   go_upto_region 5 with (go_at_call 20;refine HCC.out.mono ?_;rintro ev w3 ⟨a3,er3,is3,rfl,rfl,hch⟩;obtain ⟨⟨rfl,hcd⟩,c3,he3⟩:=qLe hch;have HE3:=Hh he3;have HEO:=Hh (qAc p hcd);have HCD:=Hh hcd;clear he3 hcd hch)
   have HB3:=Hh (HB2.out.trans (HE3.out.below HB2.out.size HLOW.out))
   rw [HEO.out]
   have HBR:=Hh (qIK (p cd) w3 (HE.out.below HB3.out).errs)
   go_wp2_with (go_at_call 23;refine HBR.out.mono ?_;rintro ev w5 ⟨rfl,hb5⟩;have HB5:=Hh (HB3.out.trans (hb5.mono HB3.out.size));clear hb5)
   go_ret2
   refine ⟨_,_,c,rfl,Ext.of_below HB5.out c Sdo,?_⟩
   rw [HDL.out]
   exact ⟨(H.out.below HB5.out).shut,HT.out.ext (Ext.of_below HB5.out c S0) rfl rfl,by rw [HEO.out];rfl,HCD.out,rfl⟩
  | ok q =>
   obtain ⟨a,s1⟩:=q
   have HDL:=Hh (show qAE s t line=(.ok a,s1,{ t with b:=t.b++record line }) from by unfold qAE;rw [← HCH.out];simp only;rw [HAP.out,zN1 rfl])
   go_upto_region 5 with (go_at_call 20;refine HCC.out.mono ?_;rintro ev w3 ⟨a3,er3,is3,rfl,rfl,hch⟩;obtain ⟨⟨rfl,rfl⟩,c3,he3,hs3⟩:=qMy hch;have HE3:=Hh he3;have HS3:=Hh hs3;clear he3 hch hs3)
   have HB3:=Hh (HB2.out.trans (HE3.out.below HB2.out.size HLOW.out))
   have HX3:=Hh (H.out.below HB3.out)
   have HT3:=Hh ((HT.out.ext HE2.out rfl rfl).ext HE3.out rfl rfl)
   have c3b:w3.cell? ⟨b,3,none⟩=some (.pointer (some ⟨tp,0,none⟩)):=zK1 w3 b 3 _ _ _ HX3.out.own
   have HAW:=Hh (qM3 HT3.out HOF.out HCU.out line hr h3 (HE.out.below HB3.out).vars)
   go_upto_region 7 with (go_at_call 22;refine HAW.out.mono ?_;rintro ev w4 ⟨rfl,c4,he4,ht4⟩;have HE4:=Hh he4;have HT4:=Hh ht4;clear he4 ht4)
   clear c3b
   obtain ⟨bd4,A4,cap4,zs4,R4,rc4,hx4⟩:=(HS3.out.ext HE4.out rfl (fun x hx=>by cases x<;>first | rfl | (cases hx))).open
   have HX4:=Hh hx4
   have hb3d:c3 b=.dead:=(HE3.out.col (zv hbl HB2.out.size) (show c2 b=.dead from by rw [HC2.out b hbl];unfold kDo;rw [H.out.col];decide) rfl)
   have hob:=HE4.out.kept HX3.out.own hb3d rfl
   have HOB:=Hh hob
   have a0:w4.cell? ⟨b2,0,none⟩=some (.pointer (some ⟨bd4,0,none⟩)):=zK1 w4 b2 0 _ _ _ hx4.own
   have a1:w4.cell? ⟨b2,1,none⟩=some (.slice A4 zs4.length cap4):=zK1 w4 b2 1 _ _ _ hx4.own
   have a2:w4.cell? ⟨b2,2,none⟩=some (.slice R4 s1.roots.length rc4):=zK1 w4 b2 2 _ _ _ hx4.own
   have a3:w4.cell? ⟨b2,3,none⟩=some (.pointer (some ⟨tp,0,none⟩)):=zK1 w4 b2 3 _ _ _ hx4.own
   have f0:w4.frozen? ⟨b,0,none⟩=false:=qAb hob.1 0
   have f1:w4.frozen? ⟨b,1,none⟩=false:=qAb hob.1 1
   have f2:w4.frozen? ⟨b,2,none⟩=false:=qAb hob.1 2
   have f3:w4.frozen? ⟨b,3,none⟩=false:=qAb hob.1 3
   have b0:=zK1 w4 b 0 _ _ _ hob.1
   have b1:=zK1 w4 b 1 _ _ _ hob.1
   have b2c:=zK1 w4 b 2 _ _ _ hob.1
   have b3c:=zK1 w4 b 3 _ _ _ hob.1
   clear hx4 hob hb3d
   go_wp2
   go_ret2
   have hc5:=qAl c4 b .sto
   have hS5:S1 .sto (qAz c4 b .sto b)=true:=by rw [hc5];rfl
   have hSb:Sdo (c b)=true:=by rw [H.out.col];rfl
   have e5:=((((Ext.refl w4 (qAz c4 b .sto) (S1 .sto)).setCell (a:=⟨b,0,none⟩) (fun _=>hS5) (.pointer (some ⟨bd4,0,none⟩))).setCell (a:=⟨b,1,none⟩) (fun _=>hS5) (.slice A4 zs4.length cap4)).setCell (a:=⟨b,2,none⟩) (fun _=>hS5) (.slice R4 s1.roots.length rc4)).setCell (a:=⟨b,3,none⟩) (fun _=>hS5) (.pointer (some ⟨tp,0,none⟩))
   have ep:=Ext.paint w4 HOB.out.2 .sto
   have ew:Ext w w4 c (qAz c4 b .sto) Sdo:=(((HE2.out.mono (S':=Sdo) (fun x hx=>by cases x<;>first | rfl | (cases hx))).then HE3.out (fun x hx=>by cases x<;>first | rfl | (cases hx))).then HE4.out (fun x hx=>by cases x<;>first | rfl | (cases hx))).recolor fun k hk hs=>qEA (fun e=>by rw [e,hSb] at hs;cases hs)
   have e5w:=(((ew.setCell (a:=⟨b,0,none⟩) (fun _=>hSb) (.pointer (some ⟨bd4,0,none⟩))).setCell (a:=⟨b,1,none⟩) (fun _=>hSb) (.slice A4 zs4.length cap4)).setCell (a:=⟨b,2,none⟩) (fun _=>hSb) (.slice R4 s1.roots.length rc4)).setCell (a:=⟨b,3,none⟩) (fun _=>hSb) (.pointer (some ⟨tp,0,none⟩))
   have ho5:=qAd (qAd (qAd (qAd HOB.out.1 0 (.pointer (some ⟨bd4,0,none⟩))) 1 (.slice A4 zs4.length cap4)) 2 (.slice R4 s1.roots.length rc4)) 3 (.pointer (some ⟨tp,0,none⟩))
   refine ⟨_,_,qAz c4 b .sto,rfl,e5w,?_⟩
   rw [HDL.out]
   exact ⟨(HX4.out.moved HOB.out.2 e5 ho5 hc5).shut,(HT4.out.ext ep rfl rfl).ext e5 rfl rfl,rfl,rfl⟩
end
theorem qPk:qCq 4 (.bool false) 1 1:=qCB (by kernel_rfl) rfl (by decide)
theorem qLZ (n:Nat):(madeCells (Value.bool false).cells (n*1)).toList=(List.replicate n false).map Value.bool:=by
 rw [List.map_replicate]
 refine List.eq_replicate_iff.2 ⟨by simp [madeCells],fun x hx=>?_⟩
 simp only [madeCells,Array.toList_map,zf] at hx
 obtain ⟨k,_,rfl⟩:=hx
 simp [Value.cells,Nat.mod_one]
def qN7 (n:Nat) (w:World) (c:Nat→Col) (e:Ending) (w':World):Prop :=
 ∃ (b:Nat) (c2:Nat→Col),e=.returned (.tuple #[.pointer (some ⟨b,0,none⟩),.nilIface])∧Below w.heap.size w w'∧SpaceAt w' c2 b (List.replicate n false)∧∀ k,k<w.heap.size→c2 k=c k
theorem qO2 (n:Nat) (h1:1≤n) (h2:n≤512) (w:World) (c:Nat→Col) :
  Calls Tryz.prog 36 #[.int .i64 n] w (qN7 n w c):=by
 have i1:¬ (n:Int)<1:=by omega
 have i2:¬ (512:Int)<(n:Int):=by omega
 obtain ⟨i0,hi,hz0,hz1,hz2⟩:=qPk.info
 obtain ⟨w1,hmk,hown,hg⟩:=run_makeSlice_full (P:=Tryz.prog) w 0 132 4 i0 (.bool false) 1 Tryz.underlying132 hi hz0 hz1 .i64 .i64 n (by omega) (by rw [hz2];omega) (by unfold maxLen;omega) (zy _)
 have HOWN:=Hh hown
 have HG:=Hh hg
 have HB:=Hh ((zC w.heap.size w).grown hg (zr _) (fun k hk=>by cases hk))
 clear hi hz0 hz1 hz2 hown hg
 go_enter Tryz.func36,Tryz.ntmps36
 go_wp2_with fail
 go_ret2
 have hgl:w.heap.size<w1.heap.size:=(HOWN.out.lt w.heap.size rfl).2
 refine ⟨w1.heap.size,qAz (qAz c w.heap.size .used) w1.heap.size .space,rfl,HB.out.alloc HB.out.size _,⟨_,zL1 w1 _,qAl _ _ _,?_⟩,fun k hk=>?_⟩
 ·rw [List.length_replicate]
  refine ⟨?_,fun k hk=>?_⟩
  ·have h:=HOWN.out
   rw [qLZ] at h
   exact h.kept (Below.toGrown ((zC _ w1).alloc (zr _) _) none) (by cases Value.ownBlock (Value.slice (some ⟨w.heap.size,0,none⟩) n n)<;>simp)
  ·simp [Value.ownBlock] at hk
   subst hk
   rw [qAg hgl (zr _),qAl]
 ·rw [qAg (Nat.lt_trans hk hgl) (zr _),qAg hk (zr _)]
def qOc (T:Tab) (w:World) (c:Nat→Col) (e:Ending) (w':World):Prop :=
 ∃ (b:Nat) (c2:Nat→Col),e=.returned (.tuple #[.pointer (some ⟨b,0,none⟩),.nilIface])∧Below w.heap.size w w'∧DirsAt w' c2 b ⟨T,[],0⟩∧∀ k,k<w.heap.size→c2 k=c k
theorem qOf {w:World} {c:Nat→Col} {bt:Nat} {T:Tab} (h:TabAt w c bt T) :
  Calls Tryz.prog 17 #[.pointer (some ⟨bt,0,none⟩)] w (qOc T w c):=by
 have hmm:=@run_makeMap Tryz.prog
 have HT:=Hh h
 clear h
 go_enter Tryz.func17,Tryz.ntmps17
 go_wp2_with fail
 go_ret2
 have hb1:Below w.heap.size w (w.alloc (.map #[] 0)):=(zC _ w).alloc (zr _) _
 have e1:Ext w (w.alloc (.map #[] 0)) c (qAz c w.heap.size .dirsMap) S0:=Ext.made w c S0 _ _
 have e2:=Ext.made (w.alloc (.map #[] 0)) (qAz c w.heap.size .dirsMap) S0 (.cells #[.pointer (some ⟨bt,0,none⟩),.map (some w.heap.size),.int .i64 0] 97) .dirs
 have e3:=e1.trans e2
 refine ⟨(w.alloc (.map #[] 0)).heap.size,qAz (qAz c w.heap.size .dirsMap) (w.alloc (.map #[] 0)).heap.size .dirs,by simp,hb1.alloc (by simp) _,⟨bt,w.heap.size,fun _=>[],fun _=>0,?_⟩,fun k hk=>?_⟩
 ·refine ⟨zL1 _ _,qAl _ _ _,HT.out.ext e3 rfl (fun _ _=>rfl),?_,?_,(fun k e he=>by cases he),(fun k e he=>by cases he),(fun k e he=>by cases he)⟩
  ·rw [qAg (n:=(w.alloc (.map #[] 0)).heap.size) (by simp) (zr _),qAl]
  ·exact (MapAt.made w Tryz.prog 3 qKq).ext e2 (qAl _ _ _) rfl
 ·rw [qAg (n:=w.heap.size) hk (by simp),qAg hk (zr _)]
def qO1 (D:List (List UInt8)) (w:World) (c:Nat→Col) (e:Ending) (w':World):Prop :=
 ∃ (b:Nat) (c2:Nat→Col),e=.returned (.tuple #[.pointer (some ⟨b,0,none⟩),.nilIface])∧Below w.heap.size w w'∧TabAt w' c2 b ⟨D,[]⟩∧∀ k,k<w.heap.size→c2 k=c k
theorem qOg {w:World} {c:Nat→Col} {bd:Nat} {D:List (List UInt8)} (h:DiskAt w c bd D) (h1:1≤D.length) (h2:D.length≤512) :
  Calls Tryz.prog 16 #[.pointer (some ⟨bd,0,none⟩)] w (qO1 D w c):=by
 have hmm:=@run_makeMap Tryz.prog
 have HD:=Hh h
 have HLN:=Hh (qOZ h)
 have HSN:=Hh (qO2 D.length h1 h2 w c)
 clear h
 go_enter Tryz.func16,Tryz.ntmps16
 go_upto_region 6 with (first
  | (go_at_call 37;refine HLN.out.mono ?_;rintro ev w2 ⟨rfl,hw2⟩;have hw3:w=w2:=hw2.symm;clear hw2;subst hw3)
  | (go_at_call 36;refine HSN.out.mono ?_;rintro ev w3 ⟨bs,c3,rfl,hb3,hs3,hc3⟩;have HB3:=Hh hb3;have HS3:=Hh hs3;have HC3:=Hh hc3;clear hb3 hs3 hc3))
 go_wp2_with fail
 go_ret2
 have hb1:Below w3.heap.size w3 (w3.alloc (.map #[] 0)):=(zC _ w3).alloc (zr _) _
 have e0:Ext w w3 c c3 S0:=(Ext.of_below HB3.out c S0).recolor fun b hb _=>HC3.out b hb
 have e1:Ext w3 (w3.alloc (.map #[] 0)) c3 (qAz c3 w3.heap.size .tabMap) S0:=Ext.made w3 c3 S0 _ _
 have e2:=Ext.made (w3.alloc (.map #[] 0)) (qAz c3 w3.heap.size .tabMap) S0 (.cells #[.pointer (some ⟨bd,0,none⟩),.pointer (some ⟨bs,0,none⟩),.map (some w3.heap.size)] 94) .tab
 have e3:=e1.trans e2
 refine ⟨(w3.alloc (.map #[] 0)).heap.size,qAz (qAz c3 w3.heap.size .tabMap) (w3.alloc (.map #[] 0)).heap.size .tab,by simp,HB3.out.trans ((hb1.alloc (by simp) _).mono HB3.out.size),⟨bd,bs,w3.heap.size,fun _=>0,?_⟩,fun k hk=>?_⟩
 ·refine ⟨zL1 _ _,qAl _ _ _,HD.out.ext (e0.trans e3) rfl rfl,?_,?_,?_,fun k x hx=>?_⟩
  ·have hu:qAU ⟨D,[]⟩=List.replicate D.length false:=by
    unfold qAU Tab.isUsed
    simp only [List.any_nil]
    exact List.eq_replicate_iff.2 ⟨by simp,fun x hx=>by
     obtain ⟨k,_,rfl⟩:=zf.1 hx
     rfl⟩
   rw [hu]
   exact HS3.out.ext e3 rfl rfl
  ·rw [qAg (n:=(w3.alloc (.map #[] 0)).heap.size) (by simp) (zr _),qAl]
  ·refine ((MapAt.made w3 Tryz.prog 3 qKq).ext e2 (qAl _ _ _) rfl).congr fun k=>?_
   simp [qAH,Tab.at_]
  ·simp [Tab.at_] at hx
 ·have hlt:k<w3.heap.size:=zv hk HB3.out.size
  rw [qAg (n:=w3.heap.size) hlt (by simp),qAg hlt (zr _)]
  exact HC3.out k hk
end Go.Proofs.YthogfjmnnaoldaaGreatDoor
