/- Lemmas. -/
import Derived.Test.YtbmkaekimccdgaaGreatDoorBm06
set_option maxHeartbeats 16000000
set_option maxRecDepth 1000000
set_option linter.all false
namespace Stl
structure qM4 (d:Dirs)(l:List Pk)(dead:List qB):Prop where
 dirs:vC d
 ks:l.map (·.k)=d.l.map (·.k)
 names:(l.map (·.name)).Nodup
 nodup:dead.Nodup
 inside:∀ x∈dead,x∈l.map (·.name)
theorem qLm {s:Sto}(hs:mP s):qM4 s.d s.l (yZ s.l s.roots):=⟨hs.dirs,hs.ks,hs.pks.names,qAB hs.pks.names _,fun _ hx=>(mH.1 hx).1⟩
theorem erase_filter {α:Type}(f:α→qB):∀ {l:List α} {k:Nat} (hk:k<l.length),(l.map f).Nodup→l.eraseIdx k=l.filter fun q=>f q != f l[k]
 | [],k,hk,_=>by simp at hk
 | x::r,0,_,h=>by
  simp only[zV,List.nodup_cons] at h;have:r.filter (fun q=>f q != f x)=r:=List.filter_eq_self.2 fun q hq=>by
   rw[bne_iff_ne];exact fun e=>h.1 (by rw[← e];exact ze hq)
  simp[this]
 | x::r,k+1,hk,h=>by
  simp only[zV,List.nodup_cons] at h;have hk':k<r.length:=by simpa using hk
  have hne:f x≠f r[k]:=fun e=>h.1 (by rw[e];exact ze (zO hk'))
  rw[List.eraseIdx_cons_succ,erase_filter f hk' h.2];simp[zI,hne]
theorem qMv {d:Dirs}{l:List Pk}{nm:qB}{r:List qB}(h:qM4 d l (nm::r)) :
  ∃ k,∃ hk:k<l.length,l[k].name=nm∧(∀ j (hj:j<l.length),l[j].name=nm→j=k)∧∃ e,qN d.l l[k].k=some e ∧
   ∀ d',d.drop l[k].k=.ok d'→qM4 d' (l.eraseIdx k) r∧jG d l (nm::r)=jG d' (l.eraseIdx k) r:=by
 obtain⟨hd,hk,hn,hdn0,hin⟩:=h;obtain⟨hdn1,hdn2⟩:=List.nodup_cons.1 hdn0;obtain⟨p,hp⟩:=zy.1 (gA.2 (hin nm (by simp)));obtain⟨hpl,hpn⟩:=wU hp;obtain⟨k,hkl,hpk⟩:=List.getElem_of_mem hpl;have hkm:p.k∈d.l.map (·.k):=by rw[← hk];exact ze (f:=(·.k)) hpl
 obtain⟨e,hel,hek⟩:=zb.1 hkm;have hent:=jI hd.keys hel;rw[hek] at hent;refine⟨k,hkl,by rw[hpk];exact hpn,fun j hj hjn=>?_,e,by rw[hpk];exact hent,fun d1 h1=>?_⟩
 ·have hpw:=List.pairwise_iff_getElem.1 hn
  rcases Nat.lt_trichotomy j k with h1 | h1 | h1
  ·have h2:=hpw j k (by simpa using hj) (by simpa using hkl) h1;rw[List.getElem_map,List.getElem_map,hpk,hpn] at h2;exact absurd hjn h2
  ·exact h1
  ·have h2:=hpw k j (by simpa using hkl) (by simpa using hj) h1;rw[List.getElem_map,List.getElem_map,hpk,hpn] at h2;exact absurd hjn.symm h2
 ·rw[hpk] at h1;obtain⟨a1,a2,a3,a4⟩:=qGS hd h1;have hkn:(l.map (·.k)).Nodup:=by
   rw[hk];have:(d.l.map (·.k)).Pairwise (·<·):=List.pairwise_map.2 hd.keys;exact this.imp (fun h=>Nat.ne_of_lt h)
  have hsame:∀ q∈l,(q.name != nm)=(q.k != p.k):=by
   intro q hq;by_cases hqp:q=p
   ·rw[hqp,hpn];simp
   ·have n1:q.name≠nm:=fun e=>hqp (yI (·.name) hn hq hpl (by rw[e,hpn]))
    have n2:q.k≠p.k:=fun e=>hqp (yI (·.k) hkn hq hpl e)
    rw[bne_iff_ne.2 n1,bne_iff_ne.2 n2]
  have hl1:(l.filter fun q=>q.name != nm)=l.filter fun q=>q.k != p.k:=List.filter_congr hsame
  have hk1:(l.filter fun q=>q.name != nm).map (·.k)=d1.l.map (·.k):=by
   rw[hl1,a3];have e1:(l.filter fun q=>q.k != p.k).map (·.k)=(l.map (·.k)).filter (fun x=>x != p.k):=by rw[List.filter_map];rfl
   have e2:(d.l.filter fun x=>x.k != p.k).map (·.k)=(d.l.map (·.k)).filter (fun x=>x != p.k):=by rw[List.filter_map];rfl
   rw[e1,e2,hk]
  have hn1:((l.filter fun q=>q.name != nm).map (·.name)).Nodup:=(List.filter_sublist.map _).nodup hn;have hin1:∀ x∈r,x∈(l.filter fun q=>q.name != nm).map (·.name):=by
   intro x hx;obtain⟨q,hq,e⟩:=zb.1 (hin x (by simp[hx]));refine zb.2 ⟨q,zZ.2 ⟨hq,?_⟩,e⟩;have:x≠nm:=fun e2=>hdn1 (by rw[← e2];exact hx)
   simp[e,this]
  have her:l.eraseIdx k=l.filter fun q=>q.name != nm:=by
   rw[erase_filter (·.name) hkl hn,hpk,hpn]
  rw[her];refine⟨⟨a1,hk1,hn1,hdn2,hin1⟩,?_⟩;simp only[jG,hp,h1]
theorem qA0 {c:UInt8}:∀ {s d t:qB},cutAt c s=some (d,t)→s=d++c::t
 | [],d,t,h=>by simp[cutAt] at h
 | x::r,d,t,h=>by
  unfold cutAt at h;split at h
  ·rename_i e
   cases h
   rw[e];rfl
  ·cases hc:cutAt c r with
   | none=>rw[hc] at h;cases h
   | some p =>
    rw[hc] at h
    cases h
    rw[qA0 (show cutAt c r=some (p.1,p.2) from hc)];rfl
theorem kZ {s r:qB}{n:Nat}(h:vH s=some (n,r)):∃ d t,cutAt 58 (s.take 7)=some (d,t)∧qI d 6=some n∧r=s.drop (d.length+1)∧d.length+1≤s.length∧n<1000000∧d.length≤6:=by
 unfold vH at h
 cases hc:cutAt 58 (s.take 7) with
 | none=>rw[hc] at h;cases h
 | some p =>
  obtain⟨d,t⟩:=p;rw[hc] at h;simp only at h
  cases hn:qI d 6 with
  | none=>rw[hn] at h;cases h
  | some m =>
   rw[hn] at h
   cases h
   have h1:=congrArg List.length (qA0 hc);simp only[List.length_take,zP,zQ] at h1;have h2:=qA2 (by decide) hn;exact⟨d,t,rfl,hn,rfl,by omega,by omega,h2.2.1⟩
theorem yL {s d r:qB}(h:qP s=some (d,r)):d.length≤s.length∧r.length≤s.length∧r.length+1≤s.length:=by
 unfold qP at h
 cases hc:vH s with
 | none=>rw[hc] at h;cases h
 | some p =>
  obtain⟨n,q⟩:=p;rw[hc] at h;simp only at h;split at h
  ·cases h
  ·cases h
   obtain⟨x,t,_,_,h3,h4,_,_⟩:=kZ hc;have:q.length≤s.length-1:=by rw[h3,List.length_drop];omega
   simp only[List.length_take,List.length_drop];omega
def qNb (rd:qB→Nat→Rd Nd):Prop:=∀ s n x s2 n2,rd s n=.ok (x,s2,n2)→n<n2∧n2≤200∧s2.length≤s.length
theorem qDb {rd:qB→Nat→Rd Nd}(h:qNb rd):∀ (k:Nat) (s:qB) (n:Nat) l s' n',vR rd k s n=.ok (l,s',n')→l.length=k∧n+k≤n'∧(n≤200→n'≤200)∧s'.length≤s.length
 | 0,s,n,l,s',n',e=>by
  cases e
  simp
 | k+1,s,n,l,s',n',e=>by
  unfold vR at e
  cases h1:qP s with
  | none=>rw[h1] at e;cases e
  | some p =>
   obtain⟨nm,s1⟩:=p;rw[h1] at e;simp only at e
   cases h2:rd s1 n with
   | error c=>rw[h2] at e;cases e
   | ok q =>
    obtain⟨x,s2,n2⟩:=q;rw[h2] at e;simp only at e
    cases h3:vR rd k s2 n2 with
    | error c=>rw[h3] at e;cases e
    | ok q3 =>
     obtain⟨l3,s3,n3⟩:=q3;rw[h3] at e
     cases e
     have a:=qDb h k s2 n2 _ _ _ h3;have b:=h _ _ _ _ _ h2;have c:=yL h1;refine⟨by simp[a.1],by omega,fun _=>a.2.2.1 (by omega),by omega⟩
theorem qC1:∀ f,qNb (jM f)
 | 0=>fun s n x s2 n2 h=>by cases h
 | f+1=>fun s n x s2 n2 h=>by
  unfold jM at h;split at h
  ·cases h
  ·rename_i hn
   cases s with
   | nil=>cases h
   | cons c r =>
    simp only at h;split at h
    ·cases h1:vH r with
     | none=>rw[h1] at h;cases h
     | some p =>
      obtain⟨k,r1⟩:=p;rw[h1] at h;simp only at h
      cases h2:vR (jM f) k r1 (n+1) with
      | error e=>rw[h2] at h;cases h
      | ok q =>
       obtain⟨l,s3,n3⟩:=q;rw[h2] at h
       cases h
       have a:=qDb (qC1 f) _ _ _ _ _ _ h2;obtain⟨d,t,_,_,h5,h6,_,_⟩:=kZ h1;have:r1.length≤r.length:=by rw[h5,List.length_drop];omega
       simp only[zQ];exact⟨by omega,a.2.2.1 (by omega),by omega⟩
    ·split at h
     ·cases h1:qP r with
      | none=>rw[h1] at h;cases h
      | some p =>
       obtain⟨d,s3⟩:=p;rw[h1] at h
       cases h
       have:=yL h1;simp only[zQ];omega
     ·cases h
def oL (l:List (qB×Nd)):Rd (List (qB×Nd))→Rd (List (qB×Nd))
 | .error e=>.error e
 | .ok (r,s,n)=>.ok (l++r,s,n)
theorem qL7 (x:Rd (List (qB×Nd))):oL [] x=x:=by rcases x with e | ⟨r,s,n⟩<;>rfl
theorem qIo {rd:qB→Nat→Rd Nd}{k:Nat}{s:qB}{n:Nat}{l:List (qB×Nd)}(h:qP s=none):oL l (vR rd (k+1) s n)=.error 1:=by
 unfold vR;rw[h];rfl
theorem qIC {rd:qB→Nat→Rd Nd}{k:Nat}{s nm s1:qB}{n e:Nat}{l:List (qB×Nd)}(h:qP s=some (nm,s1))(h2:rd s1 n=.error e):oL l (vR rd (k+1) s n)=.error e:=by
 unfold vR;rw[h];simp only;rw[h2];rfl
theorem qGH {rd:qB→Nat→Rd Nd}{k:Nat}{s nm s1 s2:qB}{n n2:Nat}{x:Nd}{l:List (qB×Nd)}(h:qP s=some (nm,s1))(h2:rd s1 n=.ok (x,s2,n2)):oL l (vR rd (k+1) s n)=oL (l++[(nm,x)]) (vR rd k s2 n2):=by
 conv=>lhs;unfold vR
 rw[h];simp only;rw[h2];simp only
 cases vR rd k s2 n2 with
 | error e=>rfl
 | ok q=>simp[oL]
def Sto.packs (s:Sto):Except Nat (List (Pk×Nd)):=s.l.mapM fun p=>(s.d.get p.k).map fun n=>(p,n)
theorem qKL:∀ n,n≤250→(dec n).length≤3:=by decide +kernel
theorem qAx {line:qB}(h:line.length≤250):(record line).length≤300:=by
 have:=qKL _ h;simp only[record,zP,zQ,List.length_nil];omega
theorem qBM {t:Tape}{line:qB}(h:line.length≤250)(h1:t.off=false)(h2:t.cut=none)(h3:t.b.length≤100000):t.append line=(0,{ t with b:=t.b++record line }):=by
 have hr:=qAx h;unfold Tape.append;rw[zL1 (by omega),zL1 (by omega),zL1 (by rw[h1];decide),h2]
structure RunOk (i:Nat)(s:Sto)(t:Tape):Prop where
 sto:mP s
 disk:s.d.t.disk.length≤512
 inos:s.d.t.l.length≤200*i
 next:s.d.next≤i
 ents:s.d.l.length≤i
 off:t.off=false
 cut:t.cut=none
 len:t.b.length≤300*i
theorem qJH {n:Nat}(h:n≤512):RunOk 0 (Sto.new n) ⟨[],false,none⟩ :=
 ⟨qJM n,by show (List.replicate n _).length≤_;rw[List.length_replicate];exact h,zo _,zo _,zo _,rfl,rfl,zo _⟩
theorem qLG {i:Nat}{s:Sto}{t:Tape}(h:RunOk i s t)(hi:i≤300){line:qB}(hl:line.length≤250):RunOk (i+1) (yH s t line).2.1 (yH s t line).2.2:=by
 have up:RunOk (i+1) s t:=⟨h.sto,h.disk,by have:=h.inos;omega,by have:=h.next;omega,by have:=h.ents;omega,h.off,h.cut,by have:=h.len;omega⟩;unfold yH
 cases hc:s.change line with
 | none=>exact up
 | some q =>
  cases q with
  | error e=>exact up
  | ok q =>
   obtain⟨a,s1⟩:=q;simp only;rw[qBM hl h.off h.cut (by have:=h.len;omega)];rw[zM1 rfl];have hr:=qAx hl;have hz:=qCX hc;show RunOk (i+1) s1 { t with b:=t.b++record line };refine⟨qE9 h.sto hc,by rw[hz.disk];exact h.disk,by have:=hz.inos;have:=h.inos;omega,by have:=hz.next;have:=h.next;omega,by have:=hz.ents;have:=h.ents;omega,h.off,h.cut,?_⟩;have:=h.len;simp only[zP];omega
def qOh (r:Except Nat qB)(a:qB):Bool:=match r with | .ok x=>x==a | .error _=>false
theorem qL9 {r:Except Nat qB}{a:qB}(h:qOh r a=true):r=.ok a:=by
 cases r with
 | error e=>cases h
 | ok x=>exact congrArg Except.ok (eq_of_beq h)
def pV:List qB→qB
 | []=>[]
 | r::rs=>record r++pV rs
theorem qCr:∀ (a b:List qB),pV (a++b)=pV a++pV b
 | [],b=>rfl
 | x::r,b=>by show record x++pV (r++b)=(record x++pV r)++pV b;rw[qCr r b,List.append_assoc]
theorem qJK (rs:List qB)(x:qB):pV (rs++[x])=pV rs++record x:=by
 rw[qCr];show pV rs++(record x++[])=_;rw[List.append_nil]
theorem qHr:∀ n,n≤250→qI (dec n) 9=some n∧(dec n).contains 58=false:=by decide +kernel
theorem qA7 {c:UInt8}:∀ {a:qB} (b:qB),a.contains c=false→cutAt c (a++c::b)=some (a,b)
 | [],b,_=>by simp[cutAt]
 | x::r,b,h=>by
  simp only[List.contains_cons,Bool.or_eq_false_iff] at h;have h1:x≠c:=fun e=>by subst e;simp at h
  show cutAt c (x::(r++c::b))=_;simp only[cutAt,zL1 h1,qA7 b h.2];rfl
theorem qBg {c:UInt8}:∀ {a:qB},a.contains c=false→cutAt c a=none
 | [],_=>rfl
 | x::r,h=>by
  simp only[List.contains_cons,Bool.or_eq_false_iff] at h;have h1:x≠c:=fun e=>by subst e;simp at h
  simp only[cutAt,zL1 h1,qBg h.2];rfl
theorem qEz {r:qB}(h:r.length≤250)(x:qB):vY (record r++x)=some r:=by
 obtain⟨h1,h2⟩:=qHr _ h;have e:record r++x=dec r.length++58::(r++([10,46]++x)):=by simp[record]
 unfold vY;rw[e,qA7 _ h2];simp only[h1];rw[zL1]
 ·rw[List.take_left]
 ·rw[List.drop_left];simp only[zP,zQ,List.length_nil];rintro (h3 | h3 | h3)
  ·omega
  ·omega
  ·exact h3 rfl
theorem qEw {c:UInt8}{a:qB}(h:a.contains c=false)(n:Nat):(a.take n).contains c=false:=by
 rw[← Bool.not_eq_true,List.contains_iff_mem] at *;exact fun h1=>h (List.mem_of_mem_take h1)
theorem qGC {r:qB}(h:r.length≤250){n:Nat}(hn:n<(record r).length):vY ((record r).take n)=none:=by
 obtain⟨h1,h2⟩:=qHr _ h;have hl:(record r).length=(dec r.length).length+(r.length+3):=by simp[record]
 unfold vY;by_cases hd:n≤(dec r.length).length
 ·have e:(record r).take n=(dec r.length).take n:=by
   unfold record;rw[zj hd]
  rw[e,qBg (qEw h2 n)]
 ·have e:(record r).take n=dec r.length++58::(r++[10,46]).take (n-(dec r.length).length-1):=by
   unfold record;rw[List.take_append,zm (by omega)];obtain⟨k,hk⟩:∃ k,n-(dec r.length).length=k+1:=⟨n-(dec r.length).length-1,by omega⟩;rw[hk,List.take_succ_cons];rfl
  rw[e,qA7 _ h2];simp only[h1];rw[zM1];refine .inr (.inl ?_);rw[List.length_take];omega
theorem qBd:∀ (rs:List qB) (f:Nat) (x:qB),(∀ r∈rs,r.length≤250)→rs.length<f→vY x=none→qU f (pV rs++x)=(rs,(pV rs).length)
 | [],f+1,x,_,_,hx=>by
  show qU (f+1) x=_;unfold qU;rw[hx];rfl
 | r::rs,f+1,x,h,hf,hx=>by
  have e:pV (r::rs)++x=record r++(pV rs++x):=by show (record r++pV rs)++x=_;rw[List.append_assoc]
  unfold qU;rw[e,qEz (h r (by simp))];simp only[List.drop_left];rw[qBd rs f x (fun y hy=>h y (by simp[hy])) (by simpa using hf) hx];show (r::rs,_)=(r::rs,(record r++pV rs).length);rw[zP]
theorem qCt:∀ rs:List qB,rs.length≤(pV rs).length
 | []=>zw _
 | r::rs=>by
  have:=qCt rs;show rs.length+1≤(record r++pV rs).length;simp only[zP,record,zQ];omega
theorem qE1 {t:Tape}{rs:List qB}{x:qB}(h:t.b=pV rs++x)(hr:∀ r∈rs,r.length≤250)(hx:vY x=none):t.recover=(rs,⟨pV rs,false,none⟩):=by
 unfold Tape.recover;have h1:=qCt rs;rw[h,qBd rs _ x hr (by rw[zP];omega) hx];simp only[List.take_left]
def xH:Sto→List qB→Option Sto
 | s,[]=>some s
 | s,line::r=>match s.change line with
  | some (.ok (_,s1))=>xH s1 r
  | _=>none
theorem wN {s s1:Sto}{line a:qB}(r:List qB)(h:s.change line=some (.ok (a,s1))):xH s (line::r)=xH s1 r:=by
 show (match s.change line with | some (.ok (_,s1))=>xH s1 r | _=>none)=_;rw[h]
theorem gC {s s':Sto}{line:qB}{r:List qB}(h:xH s (line::r)=some s'):∃ a s1,s.change line=some (.ok (a,s1))∧xH s1 r=some s':=by
 have h':(match s.change line with | some (.ok (_,s1))=>xH s1 r | _=>none)=some s':=h
 cases hc:s.change line with
 | none=>rw[hc] at h';cases h'
 | some q =>
  cases q with
  | error e=>rw[hc] at h';cases h'
  | ok q=>obtain⟨a,s1⟩:=q;rw[hc] at h';exact⟨a,s1,rfl,h'⟩
theorem qCm:∀ (rs:List qB) {s s' s1:Sto} {line a:qB},xH s rs=some s'→s'.change line=some (.ok (a,s1))→xH s (rs++[line])=some s1
 | [],s,s',s1,line,a,h,hc=>by
  injection h with h
  subst h;rw[zh,wN [] hc];rfl
 | r::rs,s,s',s1,line,a,h,hc=>by
  obtain⟨a',s2,h1,h2⟩:=gC h;rw[zE,wN _ h1];exact qCm rs h2 hc
theorem qFs:∀ (rs:List qB) {s s':Sto},xH s rs=some s'→∀ (j:Nat) (hj:j<rs.length),∃ sj a s1,xH s (rs.take j)=some sj∧sj.change rs[j]=some (.ok (a,s1))∧xH s (rs.take (j+1))=some s1
 | [],_,_,_,j,hj=>by simp at hj
 | r::rs,s,s',h,0,_=>by
  obtain⟨a,s1,h1,_⟩:=gC h;exact⟨s,a,s1,rfl,h1,by rw[List.take_succ_cons,wN _ h1];rfl⟩
 | r::rs,s,s',h,j+1,hj=>by
  obtain⟨a,s1,h1,h2⟩:=gC h;obtain⟨sj,a',s2,h3,h4,h5⟩:=qFs rs h2 j (by simpa using hj);exact⟨sj,a',s2,by rw[List.take_succ_cons,wN _ h1];exact h3,by simpa using h4,by rw[List.take_succ_cons,wN _ h1];exact h5⟩
theorem qBe:∀ (rs:List qB) (i:Nat) {s s':Sto},xH s rs=some s'→replay i s rs=.ok s'
 | [],_,s,s',h=>by injection h with h;subst h;rfl
 | r::rs,i,s,s',h=>by
  obtain⟨a,s1,h1,h2⟩:=gC h;unfold replay;rw[h1];exact qBe rs (i+1) h2
structure Keep (n i:Nat)(s:Sto)(rs:List qB):Prop where
 short:∀ r∈rs,r.length≤250
 many:rs.length≤i
 again:xH (Sto.new n) rs=some s
theorem qIx (n:Nat):Keep n 0 (Sto.new n) []:=⟨by simp,zo _,rfl⟩
theorem Keep.up {n i:Nat}{s:Sto}{rs:List qB}(h:Keep n i s rs):Keep n (i+1) s rs:=⟨h.short,by have:=h.many;omega,h.again⟩
theorem Keep.line {n i:Nat}{s s1:Sto}{rs:List qB}{line a:qB}(h:Keep n i s rs)(hl:line.length≤250)(hc:s.change line=some (.ok (a,s1))):Keep n (i+1) s1 (rs++[line]) :=
 ⟨fun r hr=>by
  rcases zX.1 hr with h1 | h1
  ·exact h.short r h1
  ·rw[zg.1 h1];exact hl,by have:=h.many;simp;omega,qCm _ h.again hc⟩
theorem qPk {n i:Nat}{s:Sto}{rs:List qB}{t:Tape}(h:Keep n i s rs)(hr:RunOk i s t)(hi:i≤300)(ht:t.b=pV rs){line:qB}(hl:line.length≤250) :
  ∃ rs',Keep n (i+1) (yH s t line).2.1 rs'∧(yH s t line).2.2=⟨pV rs',false,none⟩:=by
 have et:t=⟨pV rs,false,none⟩:=by
  have h1:=hr.off;have h2:=hr.cut
  cases t
  simp only at ht h1 h2;rw[ht,h1,h2]
 unfold yH
 cases hc:s.change line with
 | none=>exact⟨rs,h.up,et⟩
 | some q =>
  cases q with
  | error e=>exact⟨rs,h.up,et⟩
  | ok q =>
   obtain⟨a,s1⟩:=q;simp only;rw[qBM hl hr.off hr.cut (by have:=hr.len;omega),zM1 rfl];refine⟨rs++[line],h.line hl hc,?_⟩;show ({ t with b:=t.b++record line }:Tape)=_;rw[et,qJK]
def Few {α:Type}(r:Except Nat α):Prop:=∀ e,r=.error e→e≤13
theorem jH {α:Type}(x:α):Few (.ok x:Except Nat α):=fun _ h=>by cases h
theorem qF {α:Type}{e:Nat}(h:e≤13):Few (.error e:Except Nat α):=fun _ h2=>by cases h2;exact h
theorem uQ {α β:Type}{r:Except Nat α}(f:α→β)(h:Few r):Few (r.map f):=by
 cases r with
 | error e=>exact qF (h e rfl)
 | ok x=>exact jH _
theorem qH2 (n:Nd):ownErr n≤13:=by
 unfold ownErr ownErrP
 repeat' split
 all_goals decide
mutual
theorem qJL {own:Nd→Nat}(h:∀ n,own n≤13):∀ (n:Nd) (deep c:Nat),(chk own n deep c).1≤13
 | .mk k d e ks,deep,c=>by
  unfold chk;split
  ·exact(by decide:9≤13)
  ·split
   ·exact(by decide:8≤13)
   ·split
    ·exact qHb h ks _ _
    ·exact h _
theorem qHb {own:Nd→Nat}(h:∀ n,own n≤13):∀ (l:List (List UInt8×Nd)) (deep c:Nat),(chkL own l deep c).1≤13
 | [],_,_=>by unfold chkL;exact zw _
 | (_,x)::r,deep,c=>by
  unfold chkL;split
  ·exact qHb h r _ _
  ·exact qJL h x _ _
end
theorem kU (n:Nd):treeErr n≤13:=qJL qH2 n 0 0
theorem qDy {rd:qB→Nat→Rd Nd}(h:∀ s n,Few (rd s n)):∀ (k:Nat) (s:qB) (n:Nat),Few (vR rd k s n)
 | 0,s,n=>jH _
 | k+1,s,n=>by
  unfold vR
  cases qP s with
  | none=>exact qF (by decide)
  | some q =>
   obtain⟨nm,s1⟩:=q;simp only
   cases h1:rd s1 n with
   | error e=>exact qF (h _ _ e h1)
   | ok q =>
    obtain⟨x,s2,n2⟩:=q;simp only
    cases h2:vR rd k s2 n2 with
    | error e=>exact qF (qDy h k _ _ e h2)
    | ok q=>obtain⟨l,s3,n3⟩:=q;exact jH _
theorem qDM:∀ (f:Nat) (s:qB) (n:Nat),Few (jM f s n)
 | 0,_,_=>qF (by decide)
 | f+1,s,n=>by
  unfold jM;split
  ·exact qF (by decide)
  ·cases s with
   | nil=>exact qF (by decide)
   | cons c r =>
    simp only;split
    ·cases vH r with
     | none=>exact qF (by decide)
     | some q =>
      obtain⟨k,r1⟩:=q;simp only
      cases h2:vR (jM f) k r1 (n+1) with
      | error e=>exact qF (qDy (qDM f) k _ _ e h2)
      | ok q=>obtain⟨l,s3,n3⟩:=q;exact jH _
    ·split
     ·cases qP r with
      | none=>exact qF (by decide)
      | some q=>exact jH _
     ·exact qF (by decide)
theorem qFB (s:qB):Few (vP s):=by
 unfold vP;split
 ·exact qF (by decide)
 ·cases h:jM 9 s 0 with
  | error e=>exact qF (qDM 9 s 0 e h)
  | ok q =>
   obtain⟨n,r,m⟩:=q;simp only;split
   ·exact qF (by decide)
   ·split
    ·exact jH _
    ·exact qF (kU n)
theorem qGu (n:Nd)(s:qB):Few (getPath n s):=by
 unfold getPath;split
 ·exact qF (kU n)
 ·cases qQ s with
  | none=>exact qF (by decide)
  | some l =>
   simp only
   cases jJ n l with
   | none=>exact qF (by decide)
   | some x=>exact jH _
theorem qLk (t:Tab)(n:Nat):Few (t.read n):=by
 unfold Tab.read
 cases t.at_ n with
 | none=>exact qF (by decide)
 | some x =>
  simp only;split
  ·exact jH _
  ·exact qF (by decide)
theorem qMP (t:Tab)(data:qB)(e:Bool):Few (t.make data e):=by
 unfold Tab.make;split
 ·exact qF (by decide)
 ·split
  ·exact qF (by decide)
  ·exact jH _
theorem qC2:∀ (l:List It) (t:Tab),Few (makeAll t l)
 | [],_=>jH _
 | x::r,t=>by
  unfold makeAll
  cases h:t.make x.n.data x.n.exec with
  | error e=>exact qF (qMP _ _ _ e h)
  | ok q =>
   obtain⟨n,t1⟩:=q;simp only
   cases h2:makeAll t1 r with
   | error e=>exact qF (qC2 r t1 e h2)
   | ok q=>exact jH _
theorem qNU (d:Dirs)(n:Nd):Few (d.put n):=by
 unfold Dirs.put;split
 ·exact qF (kU n)
 ·split
  ·exact qF (by decide)
  ·cases h:makeAll d.t (qE n) with
   | error e=>exact qF (qC2 _ _ e h)
   | ok q=>exact jH _
theorem qLy (t:Tab)(n:Nat)(data:qB):Few (t.mend n data):=by
 unfold Tab.mend
 cases t.at_ n with
 | none=>exact qF (by decide)
 | some x =>
  simp only;split
  ·exact qF (by decide)
  ·split
   ·exact qF (by decide)
   ·exact jH _
theorem qNO (t:Tab)(k bit:Nat):Few (t.rot k bit):=by
 unfold Tab.rot;split
 ·exact qF (by decide)
 ·exact jH _
mutual
theorem qDw (t:Tab)(f:List (qB×Nat)):∀ (n:Nd) (p:qB),Few (vU t f n p)
 | .mk k d e ks,p=>by
  unfold vU;split
  ·cases h:t.read ((jV f (told p)).getD 0) with
   | error e=>exact qF (qLk _ _ e h)
   | ok s=>exact jH _
  ·cases h:jR t f ks p with
   | error e=>exact qF (qCa t f ks p e h)
   | ok l=>exact jH _
theorem qCa (t:Tab)(f:List (qB×Nat)):∀ (l:List (qB×Nd)) (p:qB),Few (jR t f l p)
 | [],_=>jH _
 | (nm,x)::r,p=>by
  unfold jR
  cases h:vU t f x (p++47::nm) with
  | error e=>exact qF (qDw t f x _ e h)
  | ok y =>
   simp only
   cases h2:jR t f r p with
   | error e=>exact qF (qCa t f r p e h2)
   | ok l=>exact jH _
end
theorem qN0 (d:Dirs)(k:Nat):Few (d.get k):=by
 unfold Dirs.get
 cases qN d.l k with
 | none=>exact qF (by decide)
 | some e=>exact qDw _ _ _ _
theorem qNY (s:Sto)(rest:qB):Few (s.add rest):=by
 unfold Sto.add
 cases cutAt 32 rest with
 | none=>exact qF (by decide)
 | some q =>
  obtain⟨name,text⟩:=q;simp only;split
  ·exact qF (by decide)
  ·split
   ·exact qF (by decide)
   ·split
    ·exact qF (by decide)
    ·cases h:vP text with
     | error e=>exact qF (qFB _ e h)
     | ok n =>
      simp only;split
      ·exact qF (by decide)
      ·cases h2:s.d.put n with
       | error e=>exact qF (qNU _ _ e h2)
       | ok q=>exact jH _
theorem qIN (s:Sto)(line:qB){e:Nat}(h:s.change line=some (.error e)):e≤13:=by
 have few_some:∀ {r:Except Nat (qB×Sto)},Few r→some r=some (.error e)→e≤13:=fun {r} h1 h2=>by
  injection h2 with h2
  exact h1 e h2
 unfold Sto.change at h;split at h
 ·exact few_some (jH _) h
 ·split at h
  ·exact few_some (jH _) h
  ·cases hc:cutAt 32 line with
   | none=>rw[hc] at h;cases h
   | some q =>
    obtain⟨word,rest⟩:=q;rw[hc] at h;simp only at h;split at h
    ·exact few_some (uQ _ (qNY _ _)) h
    ·split at h
     ·refine few_some ?_ h;split
      ·exact qF (by decide)
      ·split
       ·exact qF (by decide)
       ·exact jH _
     ·split at h
      ·refine few_some ?_ h;split
       ·exact jH _
       ·exact qF (by decide)
      ·split at h
       ·refine few_some ?_ h;split
        ·exact qF (by decide)
        ·split
         ·exact uQ _ (qNO _ _ _)
         ·exact qF (by decide)
       ·split at h
        ·refine few_some ?_ h;split
         ·exact qF (by decide)
         ·split
          ·exact uQ _ (qLy _ _ _)
          ·exact qF (by decide)
        ·cases h
theorem qD0 (s:Sto)(name:qB):Few (s.tree name):=by
 unfold Sto.tree
 cases s.find name with
 | none=>exact qF (by decide)
 | some p=>exact qN0 _ _
theorem qKM (s:Sto)(rest:qB):Few (s.read rest):=by
 unfold Sto.read
 cases cutAt 32 rest with
 | none=>exact qF (by decide)
 | some q =>
  obtain⟨name,p⟩:=q;simp only
  cases h:s.tree name with
  | error e=>exact qF (qD0 _ _ e h)
  | ok n=>exact uQ _ (qGu _ _)
theorem qLN (s:Sto)(line:qB):Few (s.tell line):=by
 unfold Sto.tell;split
 ·exact jH _
 ·split
  ·exact jH _
  ·split
   ·exact jH _
   ·split
    ·exact jH _
    ·split
     ·exact jH _
     ·cases cutAt 32 line with
      | none=>exact qF (by decide)
      | some q =>
       obtain⟨word,rest⟩:=q;simp only;split
       ·exact qKM _ _
       ·split
        ·cases s.find rest with
         | none=>exact qF (by decide)
         | some p=>exact jH _
        ·split
         ·split
          ·exact qF (by decide)
          ·exact jH _
         ·split
          ·split
           ·exact qF (by decide)
           ·exact jH _
          ·split
           ·cases qI rest 6 with
            | none=>exact qF (by decide)
            | some n=>exact jH _
           ·exact qF (by decide)
theorem qIV (t:Tape)(s:qB):(t.append s).1≤13:=by
 unfold Tape.append
 repeat' split
 all_goals (dsimp only;omega)
theorem qDW (s:Sto)(t:Tape)(line:qB):Few (yH s t line).1:=by
 unfold yH
 cases h:s.change line with
 | none=>exact qLN _ _
 | some q =>
  cases q with
  | error e=>exact qF (qIN s line h)
  | ok q =>
   obtain⟨a,s1⟩:=q;simp only;split
   ·exact jH _
   ·exact qF (qIV _ _)
theorem qO5 (by_:UInt8):∀ (s a r:qB),cutAt by_ s=some (a,r)→a=s.takeWhile fun c=>c != by_
 | [],_,_,h=>by unfold cutAt at h;cases h
 | c::s,a,r,h=>by
  unfold cutAt at h;by_cases hc:c=by_
  ·rw[zM1 hc] at h
   cases h
   rw[List.takeWhile_cons,zL1 (by simp[hc])]
  ·rw[zL1 hc] at h
   cases hq:cutAt by_ s with
   | none=>rw[hq] at h;cases h
   | some q =>
    obtain⟨a',r'⟩:=q;rw[hq] at h
    cases h
    rw[List.takeWhile_cons,zM1 (by simpa using hc),← qO5 by_ s a' r' hq]
theorem qO6 (by_:UInt8):∀ (s:qB),cutAt by_ s=none→(s.takeWhile fun c=>c != by_)=s
 | [],_=>rfl
 | c::s,h=>by
  unfold cutAt at h;by_cases hc:c=by_
  ·rw[zM1 hc] at h;cases h
  ·rw[zL1 hc] at h
   cases hq:cutAt by_ s with
   | some q=>rw[hq] at h;cases h
   | none=>rw[List.takeWhile_cons,zM1 (by simpa using hc),qO6 by_ s hq]
end Stl
