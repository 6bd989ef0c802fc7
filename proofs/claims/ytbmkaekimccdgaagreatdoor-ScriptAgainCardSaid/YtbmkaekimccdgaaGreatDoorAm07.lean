/- Lemmas. -/
import Derived.Test.YtbmkaekimccdgaaGreatDoorAm06
set_option maxHeartbeats 16000000
set_option maxRecDepth 1000000
set_option linter.all false
namespace Stl
structure qM4 (d:Dirs)(l:List Pk)(dead:List qB):Prop where
 dirs:vC d
 ks:l.map (·.k)=d.l.map (·.k)
 names:(l.map (·.name)).Nodup
 nodup:dead.Nodup
 inside:∀ x∈dead,x∈l.map (·.name)
theorem qLm {s:Sto}(hs:mP s):qM4 s.d s.l (yZ s.l s.roots):=⟨hs.dirs,hs.ks,hs.pks.names,qAB hs.pks.names _,fun _ hx=>(mH.1 hx).1⟩
theorem erase_filter {α:Type}(f:α→qB):∀ {l:List α} {k:Nat} (hk:k<l.length),(l.map f).Nodup→l.eraseIdx k=l.filter fun q=>f q != f l[k]
 | [],k,hk,_=>by simp at hk
 | x::r,0,_,h=>by
  simp only[zV,List.nodup_cons] at h;have:r.filter (fun q=>f q != f x)=r:=List.filter_eq_self.2 fun q hq=>by
   rw[bne_iff_ne];exact fun e=>h.1 (by rw[← e];exact ze hq)
  simp[this]
 | x::r,k+1,hk,h=>by
  simp only[zV,List.nodup_cons] at h;have hk':k<r.length:=by simpa using hk
  have hne:f x≠f r[k]:=fun e=>h.1 (by rw[e];exact ze (zO hk'))
  rw[List.eraseIdx_cons_succ,erase_filter f hk' h.2];simp[zI,hne]
theorem qMv {d:Dirs}{l:List Pk}{nm:qB}{r:List qB}(h:qM4 d l (nm::r)) :
  ∃ k,∃ hk:k<l.length,l[k].name=nm∧(∀ j (hj:j<l.length),l[j].name=nm→j=k)∧∃ e,qN d.l l[k].k=some e ∧
   ∀ d',d.drop l[k].k=.ok d'→qM4 d' (l.eraseIdx k) r∧jG d l (nm::r)=jG d' (l.eraseIdx k) r:=by
 obtain⟨hd,hk,hn,hdn0,hin⟩:=h;obtain⟨hdn1,hdn2⟩:=List.nodup_cons.1 hdn0;obtain⟨p,hp⟩:=zy.1 (gA.2 (hin nm (by simp)));obtain⟨hpl,hpn⟩:=wU hp;obtain⟨k,hkl,hpk⟩:=List.getElem_of_mem hpl;have hkm:p.k∈d.l.map (·.k):=by rw[← hk];exact ze (f:=(·.k)) hpl
 obtain⟨e,hel,hek⟩:=zb.1 hkm;have hent:=jI hd.keys hel;rw[hek] at hent;refine⟨k,hkl,by rw[hpk];exact hpn,fun j hj hjn=>?_,e,by rw[hpk];exact hent,fun d1 h1=>?_⟩
 ·have hpw:=List.pairwise_iff_getElem.1 hn
  rcases Nat.lt_trichotomy j k with h1 | h1 | h1
  ·have h2:=hpw j k (by simpa using hj) (by simpa using hkl) h1;rw[List.getElem_map,List.getElem_map,hpk,hpn] at h2;exact absurd hjn h2
  ·exact h1
  ·have h2:=hpw k j (by simpa using hkl) (by simpa using hj) h1;rw[List.getElem_map,List.getElem_map,hpk,hpn] at h2;exact absurd hjn.symm h2
 ·rw[hpk] at h1;obtain⟨a1,a2,a3,a4⟩:=qGS hd h1;have hkn:(l.map (·.k)).Nodup:=by
   rw[hk];have:(d.l.map (·.k)).Pairwise (·<·):=List.pairwise_map.2 hd.keys;exact this.imp (fun h=>Nat.ne_of_lt h)
  have hsame:∀ q∈l,(q.name != nm)=(q.k != p.k):=by
   intro q hq;by_cases hqp:q=p
   ·rw[hqp,hpn];simp
   ·have n1:q.name≠nm:=fun e=>hqp (yI (·.name) hn hq hpl (by rw[e,hpn]))
    have n2:q.k≠p.k:=fun e=>hqp (yI (·.k) hkn hq hpl e)
    rw[bne_iff_ne.2 n1,bne_iff_ne.2 n2]
  have hl1:(l.filter fun q=>q.name != nm)=l.filter fun q=>q.k != p.k:=List.filter_congr hsame
  have hk1:(l.filter fun q=>q.name != nm).map (·.k)=d1.l.map (·.k):=by
   rw[hl1,a3];have e1:(l.filter fun q=>q.k != p.k).map (·.k)=(l.map (·.k)).filter (fun x=>x != p.k):=by rw[List.filter_map];rfl
   have e2:(d.l.filter fun x=>x.k != p.k).map (·.k)=(d.l.map (·.k)).filter (fun x=>x != p.k):=by rw[List.filter_map];rfl
   rw[e1,e2,hk]
  have hn1:((l.filter fun q=>q.name != nm).map (·.name)).Nodup:=(List.filter_sublist.map _).nodup hn;have hin1:∀ x∈r,x∈(l.filter fun q=>q.name != nm).map (·.name):=by
   intro x hx;obtain⟨q,hq,e⟩:=zb.1 (hin x (by simp[hx]));refine zb.2 ⟨q,zZ.2 ⟨hq,?_⟩,e⟩;have:x≠nm:=fun e2=>hdn1 (by rw[← e2];exact hx)
   simp[e,this]
  have her:l.eraseIdx k=l.filter fun q=>q.name != nm:=by
   rw[erase_filter (·.name) hkl hn,hpk,hpn]
  rw[her];refine⟨⟨a1,hk1,hn1,hdn2,hin1⟩,?_⟩;simp only[jG,hp,h1]
theorem qA0 {c:UInt8}:∀ {s d t:qB},cutAt c s=some (d,t)→s=d++c::t
 | [],d,t,h=>by simp[cutAt] at h
 | x::r,d,t,h=>by
  unfold cutAt at h;split at h
  ·rename_i e
   cases h
   rw[e];rfl
  ·cases hc:cutAt c r with
   | none=>rw[hc] at h;cases h
   | some p =>
    rw[hc] at h
    cases h
    rw[qA0 (show cutAt c r=some (p.1,p.2) from hc)];rfl
theorem kZ {s r:qB}{n:Nat}(h:vH s=some (n,r)):∃ d t,cutAt 58 (s.take 7)=some (d,t)∧qI d 6=some n∧r=s.drop (d.length+1)∧d.length+1≤s.length∧n<1000000∧d.length≤6:=by
 unfold vH at h
 cases hc:cutAt 58 (s.take 7) with
 | none=>rw[hc] at h;cases h
 | some p =>
  obtain⟨d,t⟩:=p;rw[hc] at h;simp only at h
  cases hn:qI d 6 with
  | none=>rw[hn] at h;cases h
  | some m =>
   rw[hn] at h
   cases h
   have h1:=congrArg List.length (qA0 hc);simp only[List.length_take,zP,zQ] at h1;have h2:=qA2 (by decide) hn;exact⟨d,t,rfl,hn,rfl,by omega,by omega,h2.2.1⟩
theorem yL {s d r:qB}(h:qP s=some (d,r)):d.length≤s.length∧r.length≤s.length∧r.length+1≤s.length:=by
 unfold qP at h
 cases hc:vH s with
 | none=>rw[hc] at h;cases h
 | some p =>
  obtain⟨n,q⟩:=p;rw[hc] at h;simp only at h;split at h
  ·cases h
  ·cases h
   obtain⟨x,t,_,_,h3,h4,_,_⟩:=kZ hc;have:q.length≤s.length-1:=by rw[h3,List.length_drop];omega
   simp only[List.length_take,List.length_drop];omega
def qNb (rd:qB→Nat→Rd Nd):Prop:=∀ s n x s2 n2,rd s n=.ok (x,s2,n2)→n<n2∧n2≤200∧s2.length≤s.length
theorem qDb {rd:qB→Nat→Rd Nd}(h:qNb rd):∀ (k:Nat) (s:qB) (n:Nat) l s' n',vR rd k s n=.ok (l,s',n')→l.length=k∧n+k≤n'∧(n≤200→n'≤200)∧s'.length≤s.length
 | 0,s,n,l,s',n',e=>by
  cases e
  simp
 | k+1,s,n,l,s',n',e=>by
  unfold vR at e
  cases h1:qP s with
  | none=>rw[h1] at e;cases e
  | some p =>
   obtain⟨nm,s1⟩:=p;rw[h1] at e;simp only at e
   cases h2:rd s1 n with
   | error c=>rw[h2] at e;cases e
   | ok q =>
    obtain⟨x,s2,n2⟩:=q;rw[h2] at e;simp only at e
    cases h3:vR rd k s2 n2 with
    | error c=>rw[h3] at e;cases e
    | ok q3 =>
     obtain⟨l3,s3,n3⟩:=q3;rw[h3] at e
     cases e
     have a:=qDb h k s2 n2 _ _ _ h3;have b:=h _ _ _ _ _ h2;have c:=yL h1;refine⟨by simp[a.1],by omega,fun _=>a.2.2.1 (by omega),by omega⟩
theorem qC1:∀ f,qNb (jM f)
 | 0=>fun s n x s2 n2 h=>by cases h
 | f+1=>fun s n x s2 n2 h=>by
  unfold jM at h;split at h
  ·cases h
  ·rename_i hn
   cases s with
   | nil=>cases h
   | cons c r =>
    simp only at h;split at h
    ·cases h1:vH r with
     | none=>rw[h1] at h;cases h
     | some p =>
      obtain⟨k,r1⟩:=p;rw[h1] at h;simp only at h
      cases h2:vR (jM f) k r1 (n+1) with
      | error e=>rw[h2] at h;cases h
      | ok q =>
       obtain⟨l,s3,n3⟩:=q;rw[h2] at h
       cases h
       have a:=qDb (qC1 f) _ _ _ _ _ _ h2;obtain⟨d,t,_,_,h5,h6,_,_⟩:=kZ h1;have:r1.length≤r.length:=by rw[h5,List.length_drop];omega
       simp only[zQ];exact⟨by omega,a.2.2.1 (by omega),by omega⟩
    ·split at h
     ·cases h1:qP r with
      | none=>rw[h1] at h;cases h
      | some p =>
       obtain⟨d,s3⟩:=p;rw[h1] at h
       cases h
       have:=yL h1;simp only[zQ];omega
     ·cases h
def oL (l:List (qB×Nd)):Rd (List (qB×Nd))→Rd (List (qB×Nd))
 | .error e=>.error e
 | .ok (r,s,n)=>.ok (l++r,s,n)
theorem qL7 (x:Rd (List (qB×Nd))):oL [] x=x:=by rcases x with e | ⟨r,s,n⟩<;>rfl
theorem qIo {rd:qB→Nat→Rd Nd}{k:Nat}{s:qB}{n:Nat}{l:List (qB×Nd)}(h:qP s=none):oL l (vR rd (k+1) s n)=.error 1:=by
 unfold vR;rw[h];rfl
theorem qIC {rd:qB→Nat→Rd Nd}{k:Nat}{s nm s1:qB}{n e:Nat}{l:List (qB×Nd)}(h:qP s=some (nm,s1))(h2:rd s1 n=.error e):oL l (vR rd (k+1) s n)=.error e:=by
 unfold vR;rw[h];simp only;rw[h2];rfl
theorem qGH {rd:qB→Nat→Rd Nd}{k:Nat}{s nm s1 s2:qB}{n n2:Nat}{x:Nd}{l:List (qB×Nd)}(h:qP s=some (nm,s1))(h2:rd s1 n=.ok (x,s2,n2)):oL l (vR rd (k+1) s n)=oL (l++[(nm,x)]) (vR rd k s2 n2):=by
 conv=>lhs;unfold vR
 rw[h];simp only;rw[h2];simp only
 cases vR rd k s2 n2 with
 | error e=>rfl
 | ok q=>simp[oL]
def Sto.packs (s:Sto):Except Nat (List (Pk×Nd)):=s.l.mapM fun p=>(s.d.get p.k).map fun n=>(p,n)
theorem qKL:∀ n,n≤250→(dec n).length≤3:=by decide +kernel
theorem qAx {line:qB}(h:line.length≤250):(record line).length≤300:=by
 have:=qKL _ h;simp only[record,zP,zQ,List.length_nil];omega
theorem qBM {t:Tape}{line:qB}(h:line.length≤250)(h1:t.off=false)(h2:t.cut=none)(h3:t.b.length≤100000):t.append line=(0,{ t with b:=t.b++record line }):=by
 have hr:=qAx h;unfold Tape.append;rw[zL1 (by omega),zL1 (by omega),zL1 (by rw[h1];decide),h2]
structure RunOk (i:Nat)(s:Sto)(t:Tape):Prop where
 sto:mP s
 disk:s.d.t.disk.length≤512
 inos:s.d.t.l.length≤200*i
 next:s.d.next≤i
 ents:s.d.l.length≤i
 off:t.off=false
 cut:t.cut=none
 len:t.b.length≤300*i
theorem qJH {n:Nat}(h:n≤512):RunOk 0 (Sto.new n) ⟨[],false,none⟩ :=
 ⟨qJM n,by show (List.replicate n _).length≤_;rw[List.length_replicate];exact h,zo _,zo _,zo _,rfl,rfl,zo _⟩
theorem qLG {i:Nat}{s:Sto}{t:Tape}(h:RunOk i s t)(hi:i≤300){line:qB}(hl:line.length≤250):RunOk (i+1) (yH s t line).2.1 (yH s t line).2.2:=by
 have up:RunOk (i+1) s t:=⟨h.sto,h.disk,by have:=h.inos;omega,by have:=h.next;omega,by have:=h.ents;omega,h.off,h.cut,by have:=h.len;omega⟩;unfold yH
 cases hc:s.change line with
 | none=>exact up
 | some q =>
  cases q with
  | error e=>exact up
  | ok q =>
   obtain⟨a,s1⟩:=q;simp only;rw[qBM hl h.off h.cut (by have:=h.len;omega)];rw[zM1 rfl];have hr:=qAx hl;have hz:=qCX hc;show RunOk (i+1) s1 { t with b:=t.b++record line };refine⟨qE9 h.sto hc,by rw[hz.disk];exact h.disk,by have:=hz.inos;have:=h.inos;omega,by have:=hz.next;have:=h.next;omega,by have:=hz.ents;have:=h.ents;omega,h.off,h.cut,?_⟩;have:=h.len;simp only[zP];omega
def qOh (r:Except Nat qB)(a:qB):Bool:=match r with | .ok x=>x==a | .error _=>false
theorem qL9 {r:Except Nat qB}{a:qB}(h:qOh r a=true):r=.ok a:=by
 cases r with
 | error e=>cases h
 | ok x=>exact congrArg Except.ok (eq_of_beq h)
def pV:List qB→qB
 | []=>[]
 | r::rs=>record r++pV rs
theorem qCr:∀ (a b:List qB),pV (a++b)=pV a++pV b
 | [],b=>rfl
 | x::r,b=>by show record x++pV (r++b)=(record x++pV r)++pV b;rw[qCr r b,List.append_assoc]
theorem qJK (rs:List qB)(x:qB):pV (rs++[x])=pV rs++record x:=by
 rw[qCr];show pV rs++(record x++[])=_;rw[List.append_nil]
theorem qHr:∀ n,n≤250→qI (dec n) 9=some n∧(dec n).contains 58=false:=by decide +kernel
theorem qA7 {c:UInt8}:∀ {a:qB} (b:qB),a.contains c=false→cutAt c (a++c::b)=some (a,b)
 | [],b,_=>by simp[cutAt]
 | x::r,b,h=>by
  simp only[List.contains_cons,Bool.or_eq_false_iff] at h;have h1:x≠c:=fun e=>by subst e;simp at h
  show cutAt c (x::(r++c::b))=_;simp only[cutAt,zL1 h1,qA7 b h.2];rfl
theorem qBg {c:UInt8}:∀ {a:qB},a.contains c=false→cutAt c a=none
 | [],_=>rfl
 | x::r,h=>by
  simp only[List.contains_cons,Bool.or_eq_false_iff] at h;have h1:x≠c:=fun e=>by subst e;simp at h
  simp only[cutAt,zL1 h1,qBg h.2];rfl
theorem qEz {r:qB}(h:r.length≤250)(x:qB):vY (record r++x)=some r:=by
 obtain⟨h1,h2⟩:=qHr _ h;have e:record r++x=dec r.length++58::(r++([10,46]++x)):=by simp[record]
 unfold vY;rw[e,qA7 _ h2];simp only[h1];rw[zL1]
 ·rw[List.take_left]
 ·rw[List.drop_left];simp only[zP,zQ,List.length_nil];rintro (h3 | h3 | h3)
  ·omega
  ·omega
  ·exact h3 rfl
theorem qEw {c:UInt8}{a:qB}(h:a.contains c=false)(n:Nat):(a.take n).contains c=false:=by
 rw[← Bool.not_eq_true,List.contains_iff_mem] at *;exact fun h1=>h (List.mem_of_mem_take h1)
theorem qGC {r:qB}(h:r.length≤250){n:Nat}(hn:n<(record r).length):vY ((record r).take n)=none:=by
 obtain⟨h1,h2⟩:=qHr _ h;have hl:(record r).length=(dec r.length).length+(r.length+3):=by simp[record]
 unfold vY;by_cases hd:n≤(dec r.length).length
 ·have e:(record r).take n=(dec r.length).take n:=by
   unfold record;rw[zj hd]
  rw[e,qBg (qEw h2 n)]
 ·have e:(record r).take n=dec r.length++58::(r++[10,46]).take (n-(dec r.length).length-1):=by
   unfold record;rw[List.take_append,zm (by omega)];obtain⟨k,hk⟩:∃ k,n-(dec r.length).length=k+1:=⟨n-(dec r.length).length-1,by omega⟩;rw[hk,List.take_succ_cons];rfl
  rw[e,qA7 _ h2];simp only[h1];rw[zM1];refine .inr (.inl ?_);rw[List.length_take];omega
theorem qBd:∀ (rs:List qB) (f:Nat) (x:qB),(∀ r∈rs,r.length≤250)→rs.length<f→vY x=none→qU f (pV rs++x)=(rs,(pV rs).length)
 | [],f+1,x,_,_,hx=>by
  show qU (f+1) x=_;unfold qU;rw[hx];rfl
 | r::rs,f+1,x,h,hf,hx=>by
  have e:pV (r::rs)++x=record r++(pV rs++x):=by show (record r++pV rs)++x=_;rw[List.append_assoc]
  unfold qU;rw[e,qEz (h r (by simp))];simp only[List.drop_left];rw[qBd rs f x (fun y hy=>h y (by simp[hy])) (by simpa using hf) hx];show (r::rs,_)=(r::rs,(record r++pV rs).length);rw[zP]
theorem qCt:∀ rs:List qB,rs.length≤(pV rs).length
 | []=>zw _
 | r::rs=>by
  have:=qCt rs;show rs.length+1≤(record r++pV rs).length;simp only[zP,record,zQ];omega
theorem qE1 {t:Tape}{rs:List qB}{x:qB}(h:t.b=pV rs++x)(hr:∀ r∈rs,r.length≤250)(hx:vY x=none):t.recover=(rs,⟨pV rs,false,none⟩):=by
 unfold Tape.recover;have h1:=qCt rs;rw[h,qBd rs _ x hr (by rw[zP];omega) hx];simp only[List.take_left]
def xH:Sto→List qB→Option Sto
 | s,[]=>some s
 | s,line::r=>match s.change line with
  | some (.ok (_,s1))=>xH s1 r
  | _=>none
theorem wN {s s1:Sto}{line a:qB}(r:List qB)(h:s.change line=some (.ok (a,s1))):xH s (line::r)=xH s1 r:=by
 show (match s.change line with | some (.ok (_,s1))=>xH s1 r | _=>none)=_;rw[h]
theorem gC {s s':Sto}{line:qB}{r:List qB}(h:xH s (line::r)=some s'):∃ a s1,s.change line=some (.ok (a,s1))∧xH s1 r=some s':=by
 have h':(match s.change line with | some (.ok (_,s1))=>xH s1 r | _=>none)=some s':=h
 cases hc:s.change line with
 | none=>rw[hc] at h';cases h'
 | some q =>
  cases q with
  | error e=>rw[hc] at h';cases h'
  | ok q=>obtain⟨a,s1⟩:=q;rw[hc] at h';exact⟨a,s1,rfl,h'⟩
theorem qCm:∀ (rs:List qB) {s s' s1:Sto} {line a:qB},xH s rs=some s'→s'.change line=some (.ok (a,s1))→xH s (rs++[line])=some s1
 | [],s,s',s1,line,a,h,hc=>by
  injection h with h
  subst h;rw[zh,wN [] hc];rfl
 | r::rs,s,s',s1,line,a,h,hc=>by
  obtain⟨a',s2,h1,h2⟩:=gC h;rw[zE,wN _ h1];exact qCm rs h2 hc
theorem qFs:∀ (rs:List qB) {s s':Sto},xH s rs=some s'→∀ (j:Nat) (hj:j<rs.length),∃ sj a s1,xH s (rs.take j)=some sj∧sj.change rs[j]=some (.ok (a,s1))∧xH s (rs.take (j+1))=some s1
 | [],_,_,_,j,hj=>by simp at hj
 | r::rs,s,s',h,0,_=>by
  obtain⟨a,s1,h1,_⟩:=gC h;exact⟨s,a,s1,rfl,h1,by rw[List.take_succ_cons,wN _ h1];rfl⟩
 | r::rs,s,s',h,j+1,hj=>by
  obtain⟨a,s1,h1,h2⟩:=gC h;obtain⟨sj,a',s2,h3,h4,h5⟩:=qFs rs h2 j (by simpa using hj);exact⟨sj,a',s2,by rw[List.take_succ_cons,wN _ h1];exact h3,by simpa using h4,by rw[List.take_succ_cons,wN _ h1];exact h5⟩
theorem qBe:∀ (rs:List qB) (i:Nat) {s s':Sto},xH s rs=some s'→replay i s rs=.ok s'
 | [],_,s,s',h=>by injection h with h;subst h;rfl
 | r::rs,i,s,s',h=>by
  obtain⟨a,s1,h1,h2⟩:=gC h;unfold replay;rw[h1];exact qBe rs (i+1) h2
structure Keep (n i:Nat)(s:Sto)(rs:List qB):Prop where
 short:∀ r∈rs,r.length≤250
 many:rs.length≤i
 again:xH (Sto.new n) rs=some s
theorem qIx (n:Nat):Keep n 0 (Sto.new n) []:=⟨by simp,zo _,rfl⟩
theorem Keep.up {n i:Nat}{s:Sto}{rs:List qB}(h:Keep n i s rs):Keep n (i+1) s rs:=⟨h.short,by have:=h.many;omega,h.again⟩
theorem Keep.line {n i:Nat}{s s1:Sto}{rs:List qB}{line a:qB}(h:Keep n i s rs)(hl:line.length≤250)(hc:s.change line=some (.ok (a,s1))):Keep n (i+1) s1 (rs++[line]) :=
 ⟨fun r hr=>by
  rcases zX.1 hr with h1 | h1
  ·exact h.short r h1
  ·rw[zg.1 h1];exact hl,by have:=h.many;simp;omega,qCm _ h.again hc⟩
def Few {α:Type}(r:Except Nat α):Prop:=∀ e,r=.error e→e≤13
theorem jH {α:Type}(x:α):Few (.ok x:Except Nat α):=fun _ h=>by cases h
theorem qF {α:Type}{e:Nat}(h:e≤13):Few (.error e:Except Nat α):=fun _ h2=>by cases h2;exact h
theorem uQ {α β:Type}{r:Except Nat α}(f:α→β)(h:Few r):Few (r.map f):=by
 cases r with
 | error e=>exact qF (h e rfl)
 | ok x=>exact jH _
theorem qH2 (n:Nd):ownErr n≤13:=by
 unfold ownErr ownErrP
 repeat' split
 all_goals decide
mutual
theorem qJL {own:Nd→Nat}(h:∀ n,own n≤13):∀ (n:Nd) (deep c:Nat),(chk own n deep c).1≤13
 | .mk k d e ks,deep,c=>by
  unfold chk;split
  ·exact(by decide:9≤13)
  ·split
   ·exact(by decide:8≤13)
   ·split
    ·exact qHb h ks _ _
    ·exact h _
theorem qHb {own:Nd→Nat}(h:∀ n,own n≤13):∀ (l:List (List UInt8×Nd)) (deep c:Nat),(chkL own l deep c).1≤13
 | [],_,_=>by unfold chkL;exact zw _
 | (_,x)::r,deep,c=>by
  unfold chkL;split
  ·exact qHb h r _ _
  ·exact qJL h x _ _
end
theorem kU (n:Nd):treeErr n≤13:=qJL qH2 n 0 0
theorem qDy {rd:qB→Nat→Rd Nd}(h:∀ s n,Few (rd s n)):∀ (k:Nat) (s:qB) (n:Nat),Few (vR rd k s n)
 | 0,s,n=>jH _
 | k+1,s,n=>by
  unfold vR
  cases qP s with
  | none=>exact qF (by decide)
  | some q =>
   obtain⟨nm,s1⟩:=q;simp only
   cases h1:rd s1 n with
   | error e=>exact qF (h _ _ e h1)
   | ok q =>
    obtain⟨x,s2,n2⟩:=q;simp only
    cases h2:vR rd k s2 n2 with
    | error e=>exact qF (qDy h k _ _ e h2)
    | ok q=>obtain⟨l,s3,n3⟩:=q;exact jH _
theorem qDM:∀ (f:Nat) (s:qB) (n:Nat),Few (jM f s n)
 | 0,_,_=>qF (by decide)
 | f+1,s,n=>by
  unfold jM;split
  ·exact qF (by decide)
  ·cases s with
   | nil=>exact qF (by decide)
   | cons c r =>
    simp only;split
    ·cases vH r with
     | none=>exact qF (by decide)
     | some q =>
      obtain⟨k,r1⟩:=q;simp only
      cases h2:vR (jM f) k r1 (n+1) with
      | error e=>exact qF (qDy (qDM f) k _ _ e h2)
      | ok q=>obtain⟨l,s3,n3⟩:=q;exact jH _
    ·split
     ·cases qP r with
      | none=>exact qF (by decide)
      | some q=>exact jH _
     ·exact qF (by decide)
theorem qFB (s:qB):Few (vP s):=by
 unfold vP;split
 ·exact qF (by decide)
 ·cases h:jM 9 s 0 with
  | error e=>exact qF (qDM 9 s 0 e h)
  | ok q =>
   obtain⟨n,r,m⟩:=q;simp only;split
   ·exact qF (by decide)
   ·split
    ·exact jH _
    ·exact qF (kU n)
theorem qGu (n:Nd)(s:qB):Few (getPath n s):=by
 unfold getPath;split
 ·exact qF (kU n)
 ·cases qQ s with
  | none=>exact qF (by decide)
  | some l =>
   simp only
   cases jJ n l with
   | none=>exact qF (by decide)
   | some x=>exact jH _
theorem qLk (t:Tab)(n:Nat):Few (t.read n):=by
 unfold Tab.read
 cases t.at_ n with
 | none=>exact qF (by decide)
 | some x =>
  simp only;split
  ·exact jH _
  ·exact qF (by decide)
theorem qMP (t:Tab)(data:qB)(e:Bool):Few (t.make data e):=by
 unfold Tab.make;split
 ·exact qF (by decide)
 ·split
  ·exact qF (by decide)
  ·exact jH _
theorem qC2:∀ (l:List It) (t:Tab),Few (makeAll t l)
 | [],_=>jH _
 | x::r,t=>by
  unfold makeAll
  cases h:t.make x.n.data x.n.exec with
  | error e=>exact qF (qMP _ _ _ e h)
  | ok q =>
   obtain⟨n,t1⟩:=q;simp only
   cases h2:makeAll t1 r with
   | error e=>exact qF (qC2 r t1 e h2)
   | ok q=>exact jH _
theorem qNU (d:Dirs)(n:Nd):Few (d.put n):=by
 unfold Dirs.put;split
 ·exact qF (kU n)
 ·split
  ·exact qF (by decide)
  ·cases h:makeAll d.t (qE n) with
   | error e=>exact qF (qC2 _ _ e h)
   | ok q=>exact jH _
theorem qLy (t:Tab)(n:Nat)(data:qB):Few (t.mend n data):=by
 unfold Tab.mend
 cases t.at_ n with
 | none=>exact qF (by decide)
 | some x =>
  simp only;split
  ·exact qF (by decide)
  ·split
   ·exact qF (by decide)
   ·exact jH _
theorem qNO (t:Tab)(k bit:Nat):Few (t.rot k bit):=by
 unfold Tab.rot;split
 ·exact qF (by decide)
 ·exact jH _
mutual
theorem qDw (t:Tab)(f:List (qB×Nat)):∀ (n:Nd) (p:qB),Few (vU t f n p)
 | .mk k d e ks,p=>by
  unfold vU;split
  ·cases h:t.read ((jV f (told p)).getD 0) with
   | error e=>exact qF (qLk _ _ e h)
   | ok s=>exact jH _
  ·cases h:jR t f ks p with
   | error e=>exact qF (qCa t f ks p e h)
   | ok l=>exact jH _
theorem qCa (t:Tab)(f:List (qB×Nat)):∀ (l:List (qB×Nd)) (p:qB),Few (jR t f l p)
 | [],_=>jH _
 | (nm,x)::r,p=>by
  unfold jR
  cases h:vU t f x (p++47::nm) with
  | error e=>exact qF (qDw t f x _ e h)
  | ok y =>
   simp only
   cases h2:jR t f r p with
   | error e=>exact qF (qCa t f r p e h2)
   | ok l=>exact jH _
end
theorem qN0 (d:Dirs)(k:Nat):Few (d.get k):=by
 unfold Dirs.get
 cases qN d.l k with
 | none=>exact qF (by decide)
 | some e=>exact qDw _ _ _ _
theorem qNY (s:Sto)(rest:qB):Few (s.add rest):=by
 unfold Sto.add
 cases cutAt 32 rest with
 | none=>exact qF (by decide)
 | some q =>
  obtain⟨name,text⟩:=q;simp only;split
  ·exact qF (by decide)
  ·split
   ·exact qF (by decide)
   ·split
    ·exact qF (by decide)
    ·cases h:vP text with
     | error e=>exact qF (qFB _ e h)
     | ok n =>
      simp only;split
      ·exact qF (by decide)
      ·cases h2:s.d.put n with
       | error e=>exact qF (qNU _ _ e h2)
       | ok q=>exact jH _
theorem qIN (s:Sto)(line:qB){e:Nat}(h:s.change line=some (.error e)):e≤13:=by
 have few_some:∀ {r:Except Nat (qB×Sto)},Few r→some r=some (.error e)→e≤13:=fun {r} h1 h2=>by
  injection h2 with h2
  exact h1 e h2
 unfold Sto.change at h;split at h
 ·exact few_some (jH _) h
 ·split at h
  ·exact few_some (jH _) h
  ·cases hc:cutAt 32 line with
   | none=>rw[hc] at h;cases h
   | some q =>
    obtain⟨word,rest⟩:=q;rw[hc] at h;simp only at h;split at h
    ·exact few_some (uQ _ (qNY _ _)) h
    ·split at h
     ·refine few_some ?_ h;split
      ·exact qF (by decide)
      ·split
       ·exact qF (by decide)
       ·exact jH _
     ·split at h
      ·refine few_some ?_ h;split
       ·exact jH _
       ·exact qF (by decide)
      ·split at h
       ·refine few_some ?_ h;split
        ·exact qF (by decide)
        ·split
         ·exact uQ _ (qNO _ _ _)
         ·exact qF (by decide)
       ·split at h
        ·refine few_some ?_ h;split
         ·exact qF (by decide)
         ·split
          ·exact uQ _ (qLy _ _ _)
          ·exact qF (by decide)
        ·cases h
theorem qD0 (s:Sto)(name:qB):Few (s.tree name):=by
 unfold Sto.tree
 cases s.find name with
 | none=>exact qF (by decide)
 | some p=>exact qN0 _ _
theorem qKM (s:Sto)(rest:qB):Few (s.read rest):=by
 unfold Sto.read
 cases cutAt 32 rest with
 | none=>exact qF (by decide)
 | some q =>
  obtain⟨name,p⟩:=q;simp only
  cases h:s.tree name with
  | error e=>exact qF (qD0 _ _ e h)
  | ok n=>exact uQ _ (qGu _ _)
theorem qLN (s:Sto)(line:qB):Few (s.tell line):=by
 unfold Sto.tell;split
 ·exact jH _
 ·split
  ·exact jH _
  ·split
   ·exact jH _
   ·split
    ·exact jH _
    ·split
     ·exact jH _
     ·cases cutAt 32 line with
      | none=>exact qF (by decide)
      | some q =>
       obtain⟨word,rest⟩:=q;simp only;split
       ·exact qKM _ _
       ·split
        ·cases s.find rest with
         | none=>exact qF (by decide)
         | some p=>exact jH _
        ·split
         ·split
          ·exact qF (by decide)
          ·exact jH _
         ·split
          ·split
           ·exact qF (by decide)
           ·exact jH _
          ·split
           ·cases qI rest 6 with
            | none=>exact qF (by decide)
            | some n=>exact jH _
           ·exact qF (by decide)
theorem qIV (t:Tape)(s:qB):(t.append s).1≤13:=by
 unfold Tape.append
 repeat' split
 all_goals (dsimp only;omega)
theorem qDW (s:Sto)(t:Tape)(line:qB):Few (yH s t line).1:=by
 unfold yH
 cases h:s.change line with
 | none=>exact qLN _ _
 | some q =>
  cases q with
  | error e=>exact qF (qIN s line h)
  | ok q =>
   obtain⟨a,s1⟩:=q;simp only;split
   ·exact jH _
   ·exact qF (qIV _ _)
def mQ (n:Nd):Nat:=((qE n).map fun x=>x.n.data.length).sum
def xN (n:Nd):Nat:=(items n).length
def gZ (s nm:qB):qB:=[100,114,111,112,58]++(s++47::nm)
def uK (s nm:qB):qB:=[97,100,100,58]++(s++47::nm)
def uW (s:qB):qB:=[101,100,105,116,58]++told s
mutual
def kC:Nd→Nd→qB→List qB
 | .mk k d e ks,b,s=>if wH (.mk k d e ks) b then [] else if k=kDir∧b.kind=kDir then qV ks b.kids s else [uW s]
def qV:List (qB×Nd)→List (qB×Nd)→qB→List qB
 | [],l,s=>l.map fun q=>uK s q.1
 | (x,n)::a,l,s =>
  ((l.takeWhile fun q=>decide (q.1<x)).map fun q=>uK s q.1) ++
   match l.dropWhile fun q=>decide (q.1<x) with
   | []=>gZ s x::qV a [] s
   | (y,m)::b=>if x=y then kC n m (s++47::x)++qV a b s else gZ s x::qV a ((y,m)::b) s
end
def jW (a b:Nd):Except Nat (List qB) :=
 if treeErr a≠0 then .error (treeErr a) else if treeErr b≠0 then .error (treeErr b) else .ok (kC a b [])
def gE (l:List qB):qB:=47::(match l with | []=>[] | x::r=>x++r.flatMap fun y=>47::y)
def qW:Nat→Nd→List qB→List qB→Nat→Except Nat qB
 | 0,_,_,_,_=>.error 9
 | _+1,_,[],cur,_=>.ok (gE cur)
 | f+1,n,nm::todo,cur,links =>
  if nm=[]∨nm=[46] then qW f n todo cur links
  else if nm=[46,46] then qW f n todo cur.dropLast links
  else if isName nm=false then .error 5
  else match jJ n (cur++[nm]) with
   | none=>.error 6
   | some x =>
    if x.kind≠kLink then qW f n todo (cur++[nm]) links
    else if 16<links+1 then .error 9
    else qW f n (qG 47 x.data++todo) (if x.data.head?=some 47 then [] else cur) (links+1)
def xY (n:Nd)(s:qB):Except Nat qB :=
 if treeErr n≠0 then .error (treeErr n)
 else match qQ s with
  | none=>.error 5
  | some l=>qW 2000 n l [] 0
def oN:qB:=[99,117,116]
def pU:qB:=[97,103,97,105,110]
def oE:qB:=[100,105,102,102]
def mZ:qB:=[102,111,108,108,111,119]
def uM:qB:=[102,105,108,101,115]
def dV:qB:=[115,105,122,101]
def uX (s:Sto)(h:qB)(r:List qB):Except Nat qB :=
 match s.tree (r.headD []) with
 | .error e=>.error e
 | .ok n =>
  if h=uM then .ok (qT (qR n))
  else if h=dV then .ok (dec (mQ n)++32::dec (xN n))
  else if h=mZ then xY n (r.getD 1 [])
  else match s.tree (r.getD 1 []) with
   | .error e=>.error e
   | .ok m=>(jW n m).map qT
def mG (h:qB):Option Nat :=
 if h=oN then some 1 else if h=pU then some 0 else if h=oE then some 2 else if h=mZ then some 2 else if h=uM then some 1 else if h=dV then some 1 else none
def mW (s:Sto)(t:Tape)(h:qB)(r:List qB):Except Nat qB×Sto×Tape :=
 if h=oN then
  match qI (r.headD []) 6 with
  | none=>(.error 1,s,t)
  | some k=>if t.off then (.error 13,s,t) else (.ok bOk,s,{ t with cut:=some k })
 else if h=pU then
  match replay 0 (Sto.new 64) t.recover.1 with
  | .ok s1=>(.ok bOk,s1,t.recover.2)
  | .error e=>(.error e.2,s,t.recover.2)
 else (uX s h r,s,t)
def qL (s:Sto)(t:Tape)(line:qB):Except Nat qB×Sto×Tape :=
 match qG 32 line with
 | []=>yH s t line
 | h::r =>
  match mG h with
  | none=>yH s t line
  | some k=>if r.length=k then mW s t h r else (.error 1,s,t)
def nL (T:Nat→qB)(r:Except Nat qB):qB:=match r with | .ok a=>a | .error e=>T e
def qY (T:Nat→qB):Sto→Tape→List qB→List qB
 | _,_,[]=>[]
 | s,t,l::r=>nL T (qL s t l).1::qY T (qL s t l).2.1 (qL s t l).2.2 r
def vW:Sto→Tape→List qB→Sto×Tape
 | s,t,[]=>(s,t)
 | s,t,l::r=>vW (qL s t l).2.1 (qL s t l).2.2 r
theorem yB (T:Nat→qB):∀ (l:List qB) (s:Sto) (t:Tape),(qY T s t l).length=l.length
 | [],_,_=>rfl
 | x::r,s,t=>by simp[qY,yB T r]
theorem qAb (T:Nat→qB):∀ (l m:List qB) (s:Sto) (t:Tape),qY T s t (l++m)=qY T s t l++qY T (vW s t l).1 (vW s t l).2 m
 | [],_,_,_=>rfl
 | x::r,m,s,t=>by simp[qY,vW,qAb T r]
theorem qDi (T:Nat→qB)(l:List qB)(s:Sto)(t:Tape)(n:Nat):qY T s t (l.take n)=(qY T s t l).take n:=by
 by_cases h:n≤l.length
 ·have e:=qAb T (l.take n) (l.drop n) s t;rw[List.take_append_drop] at e;rw[e,List.take_left' (by rw[yB,List.length_take];omega)]
 ·rw[zm (by omega),zm (by rw[yB];omega)]
structure SizeOk (i:Nat)(s:Sto):Prop where
 sto:mP s
 disk:s.d.t.disk.length≤512
 inos:s.d.t.l.length≤200*i
 next:s.d.next≤i
 ents:s.d.l.length≤i
theorem SizeOk.up {i:Nat}{s:Sto}(h:SizeOk i s):SizeOk (i+1) s:=⟨h.sto,h.disk,by have:=h.inos;omega,by have:=h.next;omega,by have:=h.ents;omega⟩
theorem SizeOk.le {i j:Nat}{s:Sto}(h:SizeOk i s)(hj:i≤j):SizeOk j s:=⟨h.sto,h.disk,by have:=h.inos;have:=Nat.mul_le_mul_left 200 hj;omega,by have:=h.next;omega,by have:=h.ents;omega⟩
theorem SizeOk.change {i:Nat}{s s1:Sto}{line a:qB}(h:SizeOk i s)(hc:s.change line=some (.ok (a,s1))):SizeOk (i+1) s1:=by
 have hz:=qCX hc;exact⟨qE9 h.sto hc,by rw[hz.disk];exact h.disk,by have:=hz.inos;have:=h.inos;omega,by have:=hz.next;have:=h.next;omega,by have:=hz.ents;have:=h.ents;omega⟩
theorem qIp {n:Nat}(h:n≤512):SizeOk 0 (Sto.new n):=⟨qJM n,by show (List.replicate n _).length≤_;rw[List.length_replicate];exact h,zo _,zo _,zo _⟩
structure ScrOk (n i:Nat)(s:Sto)(t:Tape)(rs:List qB)(x:qB):Prop where
 size:SizeOk i s
 keep:Keep n i s rs
 b:t.b=pV rs++x
 none:vY x=none
 on:t.off=false→x=[]
 cut:∀ k,t.cut=some k→k≤9223372036854775807
 len:t.b.length≤300*i
theorem qJ5 {n:Nat}(h:n≤512):ScrOk n 0 (Sto.new n) ⟨[],false,none⟩ [] []:=⟨qIp h,qIx n,rfl,rfl,fun _=>rfl,(fun _ h=>by cases h),zo _⟩
theorem ScrOk.up {n i:Nat}{s:Sto}{t:Tape}{rs:List qB}{x:qB}(h:ScrOk n i s t rs x):ScrOk n (i+1) s t rs x :=
 ⟨h.size.up,h.keep.up,h.b,h.none,h.on,h.cut,by have:=h.len;omega⟩
theorem qNg {n i:Nat}{s:Sto}{t:Tape}{rs:List qB}{x:qB}(h:ScrOk n i s t rs x)(hi:i≤300){line:qB}(hl:line.length≤250) :
  ∃ rs' x',ScrOk n (i+1) (yH s t line).2.1 (yH s t line).2.2 rs' x':=by
 unfold yH
 cases hc:s.change line with
 | none=>exact⟨rs,x,h.up⟩
 | some q =>
  cases q with
  | error e=>exact⟨rs,x,h.up⟩
  | ok q =>
   obtain⟨a,s1⟩:=q;simp only;have hlen:=h.len;have hrl:=qAx hl;have e0:t.append line=if t.off=true then (13,t) else match t.cut with
     | Option.none=>(0,{ t with b:=t.b++record line })
     | some n=>if n<(record line).length then (13,{ t with b:=t.b++(record line).take n,off:=true }) else (0,{ t with b:=t.b++record line,cut:=some (n-(record line).length) }):=by
    unfold Tape.append;rw[zL1 (by omega),zL1 (by omega)];split
    ·rfl
    ·cases t.cut<;>rfl
   rw[e0];by_cases hof:t.off=true
   ·rw[zM1 hof];simp only;rw[zL1 (by decide)];exact⟨rs,x,h.up⟩
   ·rw[zL1 hof];have hx:=h.on (by simpa using hof);have hbb:=h.b;rw[hx,List.append_nil] at hbb;have hoff:t.off=false:=by simpa using hof
    have key:∀ q:Option Nat,(∀ k,q=some k→k≤9223372036854775807)→ScrOk n (i+1) s1 { t with b:=t.b++record line,cut:=q } (rs++[line]) []:=fun q hq =>
     ⟨h.size.change hc,h.keep.line hl hc,by show t.b++record line=_;rw[hbb,qJK,List.append_nil],rfl,fun _=>rfl,hq,by show (t.b++record line).length≤_;rw[zP];omega⟩
    cases hcu:t.cut with
    | none =>
     simp only;rw[zM1 trivial];have:=key Option.none (fun _ h=>by cases h);refine⟨rs++[line],[],?_⟩;have e:({ t with b:=t.b++record line,cut:=Option.none }:Tape)={ t with b:=t.b++record line }:=by rw[← hcu]
     rw[e] at this;rw[← hcu];exact this
    | some m =>
     simp only;by_cases hm:m<(record line).length
     ·rw[zM1 hm];simp only;rw[zL1 (by decide)];refine⟨rs,(record line).take m,⟨h.size.up,h.keep.up,by show t.b++_=_;rw[hbb],qGC hl hm,(fun h=>by cases h),fun k hk=>?_,?_⟩⟩
      ·exact h.cut k (hcu.trans hk)
      ·show (t.b++(record line).take m).length≤_;rw[zP,List.length_take];omega
     ·rw[zL1 hm];simp only;rw[zM1 trivial];exact⟨rs++[line],[],key _ (fun k hk=>by injection hk with hk;have:=h.cut m hcu;omega)⟩
theorem qCn {n i:Nat}{s:Sto}{t:Tape}{rs:List qB}{x:qB}(h:ScrOk n i s t rs x):t.recover=(rs,⟨pV rs,false,Option.none⟩)∧replay 0 (Sto.new n) t.recover.1=.ok s∧ScrOk n (i+1) s ⟨pV rs,false,Option.none⟩ rs []:=by
 have hr:=qE1 h.b h.keep.short h.none;refine⟨hr,by rw[hr];exact qBe _ _ h.keep.again,⟨h.size.up,h.keep.up,(List.append_nil _).symm,rfl,fun _=>rfl,(fun _ h=>by cases h),?_⟩⟩;have:=h.len;rw[h.b,zP] at this;show (pV rs).length≤_;omega
theorem qMq {i:Nat}{s:Sto}{t:Tape}{rs:List qB}{x:qB}(h:ScrOk 64 i s t rs x)(hi:i≤300){line:qB}(hl:line.length≤250) :
  ∃ rs' x',ScrOk 64 (i+1) (qL s t line).2.1 (qL s t line).2.2 rs' x':=by
 unfold qL;split
 ·exact qNg h hi hl
 ·split
  ·exact qNg h hi hl
  ·split
   ·unfold mW;split
    ·split
     ·exact⟨rs,x,h.up⟩
     ·rename_i k hk
      split
      ·exact⟨rs,x,h.up⟩
      ·have h6:=(qA2 (by omega) hk).1;exact⟨rs,x,⟨h.size.up,h.keep.up,h.b,h.none,h.on,(fun k' hk'=>by injection hk' with hk';omega),by have:=h.len;show t.b.length≤_;omega⟩⟩
    ·split
     ·obtain⟨h1,h2,h3⟩:=qCn h;rw[h2,h1];exact⟨rs,[],h3⟩
     ·exact⟨rs,x,h.up⟩
   ·exact⟨rs,x,h.up⟩
end Stl
