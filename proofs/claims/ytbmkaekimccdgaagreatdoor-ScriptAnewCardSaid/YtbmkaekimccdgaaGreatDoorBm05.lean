/- Lemmas. -/
import Derived.Deep.Upon
import Derived.Test.YtbmkaekimccdgaaGreatDoorBm04
set_option maxHeartbeats 16000000
set_option maxRecDepth 1000000
set_option linter.all false
namespace Stl
def wI:List qB→List Pk→Prop
 | _,[]=>True
 | ahead,p::r=>(∀ x∈p.refs,x=p.name∨x∈ahead)∧wI (p.name::ahead) r
structure nY (l:List Pk):Prop where
 names:(l.map (·.name)).Nodup
 well:∀ p∈l,isName p.name=true
 rise:∀ p∈l,Rise p.refs
 few:∀ p∈l,p.refs.length≤20
 refs:wI [] l
 many:l.length≤40
structure mP (s:Sto):Prop where
 dirs:vC s.d
 ks:s.l.map (·.k)=s.d.l.map (·.k)
 pks:nY s.l
 rise:Rise s.roots
 roots:∀ r∈s.roots,r∈s.l.map (·.name)
theorem qAv:∀ (a b:List Pk) (out:List qB),jQ (a++b) out=jQ b (jQ a out)
 | [],b,out=>rfl
 | p::a,b,out=>by simp only[zE,jQ,qAv a b]
theorem qAi:∀ (l:List Pk) (out:List qB),∀ x∈out,x∈jQ l out
 | [],_,x,h=>h
 | p::r,out,x,h=>by
  unfold jQ;refine qAi r _ x ?_;split
  ·exact(mem_insAll x _ _).2 (.inr h)
  ·exact h
theorem qAR:∀ (l:List Pk) (out:List qB),Rise out→Rise (jQ l out)
 | [],_,h=>h
 | p::r,out,h=>by
  unfold jQ;refine qAR r _ ?_;split
  ·exact rise_insAll _ _ h
  ·exact h
theorem qB5 (l:List Pk)(names:List qB):Rise (closure l names):=qAR _ _ (rise_insAll _ _ rise_nil)
theorem qBr (l:List Pk)(names:List qB):∀ x∈names,x∈closure l names:=fun x h=>qAi _ _ x ((mem_insAll x _ _).2 (.inl h))
theorem kL:∀ (a b:List Pk) (ahead:List qB),wI ahead (a++b)↔wI ahead a∧wI ((a.map (·.name)).reverse++ahead) b
 | [],b,ahead=>by simp[wI]
 | p::a,b,ahead=>by simp only[zE,wI,kL a b,zV,List.reverse_cons,List.append_assoc,zE,zh,and_assoc]
theorem qAU:∀ (a:List Pk) (out:List qB) (x:qB),x∈jQ a out→x∈out∨∃ p∈a,x∈p.refs
 | [],_,x,h=>.inl h
 | p::r,out,x,h=>by
  unfold jQ at h
  rcases qAU r _ x h with h1 | ⟨q,hq,h1⟩
  ·split at h1
   ·rcases (mem_insAll x _ _).1 h1 with h2 | h2
    ·exact .inr ⟨p,by simp,h2⟩
    ·exact .inl h2
   ·exact .inl h1
  ·exact .inr ⟨q,by simp[hq],h1⟩
theorem qAX {l:List Pk}(hn:(l.map (·.name)).Nodup)(hr:wI [] l)(names:List qB):∀ p∈l,p.name∈closure l names→∀ x∈p.refs,x∈closure l names:=by
 intro p hp hpc x hx;obtain⟨a,b,e⟩:=List.append_of_mem hp;subst e;unfold closure at hpc ⊢;rw[List.reverse_append,List.reverse_cons,List.append_assoc,qAv] at hpc ⊢;simp only[List.singleton_append] at hpc ⊢;generalize jQ b.reverse (insAll names [])=out at hpc ⊢;have hin:p.name∈out:=by
  simp only[jQ] at hpc;by_cases hc:out.contains p.name=true
  ·simpa using hc
  ·rw[zL1 hc] at hpc
   rcases qAU _ _ _ hpc with h1 | ⟨q,hq,h1⟩
   ·exact h1
   ·exfalso;have hqa:q∈a:=by simpa using hq
    have h2:=(kL a (p::b) []).1 hr;obtain⟨a1,a2,e2⟩:=List.append_of_mem hqa;rw[e2] at h2;have h3:=((kL a1 (q::a2) []).1 h2.1).2.1 p.name h1;rw[zU,List.nodup_append] at hn;have h4:=hn.2.2;have hpa:p.name∈a.map (·.name):=by
     rcases h3 with h3 | h3
     ·rw[h3];exact ze (f:=(·.name)) hqa
     ·rw[e2];have:p.name∈a1.map (·.name):=by simpa using h3
      rw[zU];exact zX.2 (.inl this)
    exact h4 p.name hpa p.name (by simp) rfl
 simp only[jQ];have hc:out.contains p.name=true:=by simpa using hin
 rw[zM1 hc];exact qAi _ _ x ((mem_insAll x _ _).2 (.inl hx))
theorem qAH:∀ (l:List Pk) (out:List qB) (S:qB→Prop),(∀ x∈out,S x)→(∀ p∈l,S p.name→∀ x∈p.refs,S x)→∀ x∈jQ l out,S x
 | [],_,_,h,_=>h
 | p::r,out,S,h,hc=>by
  unfold jQ;refine qAH r _ S ?_ (fun q hq=>hc q (by simp[hq]));split
  ·rename_i h1
   intro x hx
   rcases (mem_insAll x _ _).1 hx with h2 | h2
   ·exact hc p (by simp) (h p.name (by simpa using h1)) x h2
   ·exact h x h2
  ·exact h
theorem qBu {l:List Pk}{names:List qB}(S:qB→Prop)(h:∀ x∈names,S x)(hc:∀ p∈l,S p.name→∀ x∈p.refs,S x):∀ x∈closure l names,S x :=
 qAH _ _ S (fun x hx=>by
  rcases (mem_insAll x _ _).1 hx with h1 | h1
  ·exact h x h1
  ·cases h1) (fun p hp=>hc p (by simpa using hp))
theorem qBF:∀ (l:List Pk) (ahead:List qB),wI ahead l→∀ p∈l,∀ x∈p.refs,x∈l.map (·.name)∨x∈ahead
 | [],_,_,p,h=>by cases h
 | q::r,ahead,hr,p,h=>by
  intro x hx
  rcases zY.1 h with rfl | h
  ·rcases hr.1 x hx with h1 | h1
   ·exact .inl (by simp[h1])
   ·exact .inr h1
  ·rcases qBF r _ hr.2 p h x hx with h1 | h1
   ·exact .inl (by simp at h1 ⊢;exact .inr h1)
   ·rcases zY.1 h1 with h2 | h2
    ·exact .inl (by simp[h2])
    ·exact .inr h2
theorem qAM {l:List Pk}(hr:wI [] l){names:List qB}(h:∀ x∈names,x∈l.map (·.name)):∀ x∈closure l names,x∈l.map (·.name) :=
 qBu _ h (fun p hp _ x hx=>(qBF l [] hr p hp x hx).elim id (fun h=>by cases h))
theorem qBf:∀ (l:List Pk) (ahead:List qB) (S:qB→Bool),wI ahead l→(∀ p∈l,S p.name=true→∀ x∈p.refs,S x=true)→wI (ahead.filter S) (l.filter fun p=>S p.name)
 | [],_,_,_,_=>trivial
 | p::r,ahead,S,hr,hc=>by
  have ih:=qBf r (p.name::ahead) S hr.2 (fun q hq=>hc q (by simp[hq]));rw[zI]
  cases hp:S p.name
  ·rw[zI,hp] at ih;simpa using ih
  ·rw[zI,hp] at ih;simp only[if_true] at ih ⊢;refine⟨fun x hx=>?_,ih⟩
   rcases hr.1 x hx with h1 | h1
   ·exact .inl h1
   ·exact .inr (zZ.2 ⟨h1,hc p (by simp) hp x hx⟩)
theorem qEN {l:List Pk}(h:nY l)(S:qB→Bool)(hc:∀ p∈l,S p.name=true→∀ x∈p.refs,S x=true):nY (l.filter fun p=>S p.name):=by
 have hs:(l.filter fun p=>S p.name).Sublist l:=List.filter_sublist;refine⟨(hs.map _).nodup h.names,fun p hp=>h.well p (hs.mem hp),fun p hp=>h.rise p (hs.mem hp),fun p hp=>h.few p (hs.mem hp),?_,zq hs.length_le h.many⟩;have:=qBf l [] S h.refs hc;simpa using this
theorem wU {l:List Pk}{s:qB}{p:Pk}(h:(l.find? fun p=>p.name==s)=some p):p∈l∧p.name=s :=
 ⟨zf h,by simpa using List.find?_some h⟩
theorem gA {l:List Pk}{s:qB}:(l.find? fun p=>p.name==s).isSome=true↔s∈l.map (·.name):=by
 rw[List.find?_isSome];constructor
 ·rintro ⟨p,hp,h⟩;have:p.name=s:=by simpa using h
  rw[← this];exact ze (f:=(·.name)) hp
 ·intro h;obtain⟨p,hp,e⟩:=zb.1 h;exact⟨p,hp,by simp[e]⟩
theorem yI {α β:Type}(f:α→β):∀ {l:List α},(l.map f).Nodup→∀ {a b:α},a∈l→b∈l→f a=f b→a=b
 | [],_,a,_,h,_,_=>by cases h
 | x::r,hn,a,b,ha,hb,e=>by
  simp only[zV,List.nodup_cons] at hn
  rcases zY.1 ha with ea | ha2<;>rcases zY.1 hb with eb | hb2
  ·rw[ea,eb]
  ·exact absurd (by rw[← ea,e];exact ze hb2) hn.1
  ·exact absurd (by rw[← eb,← e];exact ze ha2) hn.1
  ·exact yI f hn.2 ha2 hb2 e
theorem qBm:∀ (dead:List qB) (d:Dirs) (l:List Pk),vC d→l.map (·.k)=d.l.map (·.k)→(l.map (·.name)).Nodup→dead.Nodup→(∀ x∈dead,x∈l.map (·.name)) →
  vC (jG d l dead).1∧(jG d l dead).2=l.filter (fun p=>!dead.contains p.name)∧(jG d l dead).2.map (·.k)=(jG d l dead).1.l.map (·.k)∧(jG d l dead).1.next=d.next ∧
   (∀ p∈(jG d l dead).2,(jG d l dead).1.get p.k=d.get p.k)
 | [],d,l,hd,hk,hn,_,_=>by
  refine⟨hd,?_,hk,rfl,fun _ _=>rfl⟩;show l=l.filter _;rw[List.filter_eq_self.2];intro p _;simp
 | nm::r,d,l,hd,hk,hn,hdn,hin=>by
  obtain⟨hdn1,hdn2⟩:=List.nodup_cons.1 hdn;obtain⟨p,hp⟩:=zy.1 (gA.2 (hin nm (by simp)));obtain⟨hpl,hpn⟩:=wU hp;have hkm:p.k∈d.l.map (·.k):=by rw[← hk];exact ze (f:=(·.k)) hpl
  obtain⟨e,hel,hek⟩:=zb.1 hkm;have hent:=jI hd.keys hel;rw[hek] at hent;have hdrop:∃ d1,d.drop p.k=.ok d1:=by unfold Dirs.drop;rw[hent];exact⟨_,rfl⟩
  obtain⟨d1,h1⟩:=hdrop;obtain⟨a1,a2,a3,a4⟩:=qGS hd h1;have hkn:(l.map (·.k)).Nodup:=by
   rw[hk];have:(d.l.map (·.k)).Pairwise (·<·):=List.pairwise_map.2 hd.keys;exact this.imp (fun h=>Nat.ne_of_lt h)
  have hsame:∀ q∈l,(q.name != nm)=(q.k != p.k):=by
   intro q hq;by_cases hqp:q=p
   ·rw[hqp,hpn];simp
   ·have n1:q.name≠nm:=fun e=>hqp (yI (·.name) hn hq hpl (by rw[e,hpn]))
    have n2:q.k≠p.k:=fun e=>hqp (yI (·.k) hkn hq hpl e)
    rw[bne_iff_ne.2 n1,bne_iff_ne.2 n2]
  have hl1:(l.filter fun q=>q.name != nm)=l.filter fun q=>q.k != p.k:=List.filter_congr hsame
  have hk1:(l.filter fun q=>q.name != nm).map (·.k)=d1.l.map (·.k):=by
   rw[hl1,a3];have e1:(l.filter fun q=>q.k != p.k).map (·.k)=(l.map (·.k)).filter (fun x=>x != p.k):=by rw[List.filter_map];rfl
   have e2:(d.l.filter fun x=>x.k != p.k).map (·.k)=(d.l.map (·.k)).filter (fun x=>x != p.k):=by rw[List.filter_map];rfl
   rw[e1,e2,hk]
  have hn1:((l.filter fun q=>q.name != nm).map (·.name)).Nodup:=(List.filter_sublist.map _).nodup hn;have hin1:∀ x∈r,x∈(l.filter fun q=>q.name != nm).map (·.name):=by
   intro x hx;obtain⟨q,hq,e⟩:=zb.1 (hin x (by simp[hx]));refine zb.2 ⟨q,zZ.2 ⟨hq,?_⟩,e⟩;have:x≠nm:=fun e2=>hdn1 (by rw[← e2];exact hx)
   simp[e,this]
  obtain⟨b1,b2,b3,b4,b5⟩:=qBm r d1 (l.filter fun q=>q.name != nm) a1 hk1 hn1 hdn2 hin1;have es:jG d l (nm::r)=jG d1 (l.filter fun q=>q.name != nm) r:=by
   simp only[jG,hp,h1]
  rw[es];refine⟨b1,?_,b3,by rw[b4,a4],fun q hq=>?_⟩
  ·rw[b2,List.filter_filter];apply List.filter_congr;intro q _;by_cases e:q.name=nm<;>simp[e,List.contains_cons]
  ·rw[b5 q hq];rw[b2] at hq;have hq1:=(zZ.1 hq).1;rw[hl1] at hq1;have:=(zZ.1 hq1).2;exact a2 q.k (by simpa using this)
theorem qEX (n:Nd)(names:List qB):∀ x∈refsIn n names,x∈names:=by
 intro x hx;unfold refsIn at hx
 rcases (mem_insAll x _ _).1 hx with h | h
 ·obtain⟨y,_,hy⟩:=za.1 h;unfold found at hy
  rcases (mem_insAll x _ _).1 hy with h2 | h2
  ·have:=(zZ.1 h2).2;simp at this;exact this.2
  ·cases h2
 ·cases h
theorem qGf (n:Nd)(names:List qB):Rise (refsIn n names):=rise_insAll _ _ rise_nil
theorem qJM (blocks:Nat):mP (Sto.new blocks):=by
 have hat:∀ n,(Sto.new blocks).d.t.at_ n=none:=fun n=>by simp[Sto.new,Tab.at_]
 refine⟨⟨⟨?_,?_,?_,?_,?_,?_,?_⟩,?_,?_,?_,?_,?_,?_,?_⟩,rfl,⟨?_,?_,?_,?_,trivial,?_⟩,rise_nil,?_⟩
 ·intro b hb;have hb':b∈List.replicate blocks (List.replicate 16 (0:UInt8)):=hb;rw[(List.mem_replicate.1 hb').2];rfl
 all_goals first
  | (intro n x hx;rw[hat] at hx;cases hx)
  | (intro a b x y k hx;rw[hat] at hx;cases hx)
  | (intro e he;cases he)
  | (simp[Sto.new])
theorem qOi {s s':Sto}{rest:qB}(hs:mP s)(h:s.add rest=.ok s'):mP s':=by
 unfold Sto.add at h
 cases hc:cutAt 32 rest with
 | none=>rw[hc] at h;cases h
 | some q =>
  obtain⟨name,text⟩:=q;rw[hc] at h;simp only at h;split at h
  ·cases h
  ·rename_i h1
   split at h
   ·cases h
   ·rename_i h2
    split at h
    ·cases h
    ·rename_i h3
     cases hr:vP text with
     | error e=>rw[hr] at h;cases h
     | ok n =>
      rw[hr] at h;simp only at h;split at h
      ·cases h
      ·rename_i h4
       cases hp:s.d.put n with
       | error e=>rw[hp] at h;cases h
       | ok q =>
        obtain⟨k,d⟩:=q;rw[hp] at h;simp only at h;injection h with h
        subst h;obtain⟨p1,p2,p3⟩:=qOC hs.dirs hp;obtain⟨_,_,ek,f,t,_,ed⟩:=qED hp;have hnew:name∉s.l.map (·.name):=fun hm=>h2 (gA.2 hm)
        refine⟨p1,?_,⟨?_,?_,?_,?_,?_,?_⟩,hs.rise,fun r hr2=>?_⟩
        ·show (s.l++[_]).map _=_;rw[zU,hs.ks,ed,ek];simp
        ·show ((s.l++[_]).map _).Nodup;rw[zU,List.nodup_append];refine⟨hs.pks.names,by simp,fun a ha b hb e=>?_⟩;simp at hb;rw[e,hb] at ha;exact hnew ha
        ·intro p hp2
         rcases zX.1 hp2 with hp2 | hp2
         ·exact hs.pks.well p hp2
         ·simp at hp2;subst hp2;simpa using h1
        ·intro p hp2
         rcases zX.1 hp2 with hp2 | hp2
         ·exact hs.pks.rise p hp2
         ·simp at hp2;subst hp2;exact qGf _ _
        ·intro p hp2
         rcases zX.1 hp2 with hp2 | hp2
         ·exact hs.pks.few p hp2
         ·simp at hp2;subst hp2;show (refsIn _ _).length≤20;omega
        ·show wI [] (s.l++[_]);rw[kL];refine⟨hs.pks.refs,⟨fun x hx=>?_,trivial⟩⟩;have:=qEX _ _ x hx;simp at this ⊢
         rcases this with h5 | h5
         ·exact .inr h5
         ·exact .inl h5
        ·show (s.l++[_]).length≤40;simp;omega
        ·have:=hs.roots r hr2;show r∈(s.l++[_]).map _;rw[zU];exact zX.2 (.inl this)
theorem qAB {l:List Pk}(hn:(l.map (·.name)).Nodup)(roots:List qB):(yZ l roots).Nodup:=by
 unfold yZ;have h1:(l.reverse.filter fun p=>!(closure l roots).contains p.name).Sublist l.reverse:=List.filter_sublist;have h2:(l.reverse.map (·.name)).Nodup:=by rw[List.map_reverse];exact List.pairwise_reverse.2 (hn.imp Ne.symm)
 exact(h1.map _).nodup h2
theorem mH {l:List Pk}{roots:List qB}{x:qB}:x∈yZ l roots↔x∈l.map (·.name)∧x∉closure l roots:=by
 unfold yZ;constructor
 ·intro h;obtain⟨p,hp,e⟩:=zb.1 h;obtain⟨h1,h2⟩:=zZ.1 hp;subst e;exact⟨ze (f:=Pk.name) (List.mem_reverse.1 h1),by simpa using h2⟩
 ·rintro ⟨h1,h2⟩;obtain⟨p,hp,e⟩:=zb.1 h1;subst e;exact zb.2 ⟨p,zZ.2 ⟨by simpa using hp,by simpa using h2⟩,rfl⟩
theorem qOX {s:Sto}(hs:mP s):mP s.gc.2∧s.gc.2.l=s.l.filter (fun p=>(closure s.l s.roots).contains p.name)∧s.gc.2.roots=s.roots∧s.gc.2.d.next=s.d.next ∧
  (∀ p∈s.gc.2.l,s.gc.2.d.get p.k=s.d.get p.k):=by
 have hsp:=qBm (yZ s.l s.roots) s.d s.l hs.dirs hs.ks hs.pks.names (qAB hs.pks.names _) (fun x hx=>(mH.1 hx).1);obtain⟨b1,b2,b3,b4,b5⟩:=hsp;have el:s.gc.2.l=s.l.filter (fun p=>(closure s.l s.roots).contains p.name):=by
  show (jG s.d s.l (yZ s.l s.roots)).2=_;rw[b2];apply List.filter_congr;intro p hp;have hpm:p.name∈s.l.map (·.name):=ze (f:=(·.name)) hp;have h1:p.name∈yZ s.l s.roots↔¬ p.name∈closure s.l s.roots:=by
   rw[mH];exact⟨fun h=>h.2,fun h=>⟨hpm,h⟩⟩
  by_cases h2:p.name∈closure s.l s.roots
  ·have h3:¬ p.name∈yZ s.l s.roots:=fun h=>h1.1 h h2
   simp[h2,h3]
  ·have h3:p.name∈yZ s.l s.roots:=h1.2 h2;simp[h2,h3]
 refine⟨⟨b1,b3,?_,hs.rise,fun r hr=>?_⟩,el,rfl,b4,b5⟩
 ·show nY s.gc.2.l;rw[el];refine qEN hs.pks (fun x=>(closure s.l s.roots).contains x) fun p hp hc x hx=>?_
  rw[List.contains_iff_mem] at hc ⊢;exact qAX hs.pks.names hs.pks.refs _ p hp hc x hx
 ·show r∈s.gc.2.l.map (·.name);rw[el];obtain⟨p,hp,e⟩:=zb.1 (hs.roots r hr);refine zb.2 ⟨p,zZ.2 ⟨hp,?_⟩,e⟩;rw[List.contains_iff_mem,e];exact qBr _ _ r hr
theorem qOE {s:Sto}(hs:mP s):mP { s with d:=s.d.mergeAll.2 }:=by
 obtain⟨a1,a2,a3,a4,a5,a6⟩:=qEx s.d.weight s.d hs.dirs (zo _);exact⟨a1,by show _=(Dirs.merge _ _).2.l.map _;rw[a3];exact hs.ks,hs.pks,hs.rise,hs.roots⟩
theorem qJ8 {d:Dirs}(hd:vC d){disk:List qB}(h1:disk.length=d.t.disk.length)(h2:∀ b∈disk,b.length=16):vC { d with t:={ d.t with disk:=disk } }:=by
 refine⟨⟨h2,hd.tab.nodup,fun n x hx k hk=>?_,hd.tab.need,hd.tab.links,hd.tab.bytes,hd.tab.apart⟩,hd.keys,hd.next,hd.well,hd.bare,hd.files,hd.links,hd.there⟩;show k<disk.length;rw[h1];exact hd.tab.inside n x hx k hk
theorem qDg (s:qB)(bit:Nat):(turnBit s bit).length=s.length:=by simp[turnBit]
theorem qE9 {s s':Sto}{line a:qB}(hs:mP s)(h:s.change line=some (.ok (a,s'))):mP s':=by
 unfold Sto.change at h;split at h
 ·injection h with h;injection h with h;injection h with _ h;subst h;exact(qOX hs).1
 ·split at h
  ·injection h with h;injection h with h;injection h with _ h;subst h;exact qOE hs
  ·cases hc:cutAt 32 line with
   | none=>rw[hc] at h;cases h
   | some q =>
    obtain⟨word,rest⟩:=q;rw[hc] at h;simp only at h;split at h
    ·cases ha:s.add rest with
     | error e=>rw[ha] at h;cases h
     | ok x=>rw[ha] at h;injection h with h;injection h with h;injection h with _ h;subst h;exact qOi hs ha
    ·split at h
     ·injection h with h
      split at h
      ·cases h
      ·rename_i h1
       split at h
       ·cases h
       ·injection h with h;injection h with _ h;subst h
        refine⟨hs.dirs,hs.ks,hs.pks,qEk _ _ hs.rise,fun r hr=>?_⟩
        rcases (dM rest r s.roots).1 hr with h2 | h2
        ·subst h2;refine gA.1 ?_
         cases hf:s.find r with
         | none=>rw[hf] at h1;simp at h1
         | some p=>unfold Sto.find at hf;rw[hf];rfl
        ·exact hs.roots r h2
     ·split at h
      ·injection h with h
       split at h
       ·injection h with h;injection h with _ h;subst h
        exact⟨hs.dirs,hs.ks,hs.pks,hs.rise.filter _,fun r hr=>hs.roots r (zZ.1 hr).1⟩
       ·cases h
      ·split at h
       ·injection h with h
        split at h
        ·cases h
        ·split at h
         ·rename_i k bit _ _
          cases hr:s.d.t.rot k bit with
          | error e=>rw[hr] at h;cases h
          | ok t =>
           rw[hr] at h;injection h with h;injection h with _ h;subst h
           unfold Tab.rot at hr;split at hr
           ·cases hr
           ·injection hr with hr
            subst hr;refine⟨qJ8 hs.dirs (by simp) (fun b hb=>?_),hs.ks,hs.pks,hs.rise,hs.roots⟩
            rename_i hk
            rcases List.mem_or_eq_of_mem_set hb with h2 | h2
            ·exact hs.dirs.tab.whole b h2
            ·rw[h2,qDg];have hlt:k<s.d.t.disk.length:=by omega
             rw[List.getD_eq_getElem?_getD,zL hlt];exact hs.dirs.tab.whole _ (zO hlt)
         ·cases h
       ·split at h
        ·injection h with h
         split at h
         ·cases h
         ·split at h
          ·rename_i data _ n _
           cases hr:s.d.t.mend n _ with
           | error e=>rw[hr] at h;cases h
           | ok t =>
            rw[hr] at h;injection h with h;injection h with _ h;subst h
            unfold Tab.mend at hr;split at hr
            ·cases hr
            ·split at hr
             ·cases hr
             ·split at hr
              ·cases hr
              ·injection hr with hr
               subst hr;exact⟨qJ8 hs.dirs (jX _ _ _) (qAA _ _ _ hs.dirs.tab.whole),hs.ks,hs.pks,hs.rise,hs.roots⟩
          ·cases h
        ·cases h
structure oS (l:List Pk)(names:List qB)(seen:qB→Bool)(todo:List qB):Prop where
 start:∀ x∈names,seen x=true∨x∈todo
 refs:∀ p∈l,seen p.name=true→∀ x∈p.refs,seen x=true∨x∈todo
 in_seen:∀ x,seen x=true→x∈closure l names
 in_todo:∀ x∈todo,x∈closure l names
def gW (l:List Pk)(seen:qB→Bool):Nat:=(l.filter fun p=>!seen p.name).length
theorem qIj (l:List Pk)(names:List qB):oS l names (fun _=>false) names :=
 ⟨fun x hx=>.inr hx,fun p _ h=>(by cases h),fun x h=>(by cases h),fun x hx=>qBr l names x hx⟩
theorem qJl {l:List Pk}{names:List qB}{seen:qB→Bool}{s:qB}{r:List qB}(h:oS l names seen (s::r))(hs:seen s=true):oS l names seen r:=by
 refine⟨fun x hx=>?_,fun p hp h1 x hx=>?_,h.in_seen,fun x hx=>h.in_todo x (by simp[hx])⟩
 ·rcases h.start x hx with h1 | h1
  ·exact .inl h1
  ·rcases zY.1 h1 with rfl | h1
   ·exact .inl hs
   ·exact .inr h1
 ·rcases h.refs p hp h1 x hx with h1 | h1
  ·exact .inl h1
  ·rcases zY.1 h1 with rfl | h1
   ·exact .inl hs
   ·exact .inr h1
def vZ (seen:qB→Bool)(s:qB):qB→Bool:=fun x=>seen x||x==s
theorem qMY {l:List Pk}(hP:nY l){names:List qB}{seen:qB→Bool}{s:qB}{r:List qB}(h:oS l names seen (s::r)){p:Pk}(hp:p∈l)(hn:p.name=s):oS l names (vZ seen s) (r++p.refs):=by
 have hs:s∈closure l names:=h.in_todo s (by simp);have put:∀ x,seen x=true∨x∈s::r→vZ seen s x=true∨x∈r++p.refs:=by
  intro x hx
  rcases hx with h1 | h1
  ·exact .inl (by simp[vZ,h1])
  ·rcases zY.1 h1 with rfl | h1
   ·exact .inl (by simp[vZ])
   ·exact .inr (List.mem_append_left _ h1)
 refine⟨fun x hx=>put x (h.start x hx),fun q hq h1 x hx=>?_,fun x hx=>?_,fun x hx=>?_⟩
 ·simp only[vZ,Bool.or_eq_true,beq_iff_eq] at h1
  rcases h1 with h1 | h1
  ·exact put x (h.refs q hq h1 x hx)
  ·have:q=p:=yI (fun z:Pk=>z.name) hP.names hq hp (h1.trans hn.symm);subst this;exact .inr (List.mem_append_right _ hx)
 ·simp only[vZ,Bool.or_eq_true,beq_iff_eq] at hx
  rcases hx with hx | rfl
  ·exact h.in_seen x hx
  ·exact hs
 ·rcases zX.1 hx with hx | hx
  ·exact h.in_todo x (by simp[hx])
  ·exact qAX hP.names hP.refs names p hp (by rw[hn];exact hs) x hx
theorem qC6 {l:List Pk}{seen:qB→Bool}{s:qB}{p:Pk}(hp:p∈l)(hn:p.name=s)(hs:seen s=false):gW l (vZ seen s)+1≤gW l seen:=by
 unfold gW;have:∀ l:List Pk,p∈l→(l.filter fun p=>!vZ seen s p.name).length+1≤(l.filter fun p=>!seen p.name).length:=by
  intro l
  induction l with
  | nil=>intro h;cases h
  | cons q r ih =>
   intro h;have le:∀ r:List Pk,(r.filter fun p=>!vZ seen s p.name).length≤(r.filter fun p=>!seen p.name).length:=by
    intro r
    induction r with
    | nil=>simp
    | cons a t iht =>
     by_cases h1:seen a.name=true
     ·simpa[zI,vZ,h1] using iht
     ·by_cases h2:a.name=s
      ·simp[zI,vZ,h1,h2];simp[vZ] at iht;split<;>(try simp)<;>omega
      ·simp[zI,vZ,h1,h2];simp[vZ] at iht;omega
   by_cases hq:q.name=s
   ·have:=le r;simp[zI,vZ,hq,hs];simp[vZ] at this;omega
   ·have hr:p∈r:=by
     rcases zY.1 h with e | e
     ·exact absurd (by rw[← e];exact hn) hq
     ·exact e
    have:=ih hr;by_cases h1:seen q.name=true
    ·simpa[zI,vZ,h1] using this
    ·simp[zI,vZ,h1,hq];simp[vZ] at this;omega
 exact this l hp
theorem qMj {l:List Pk}{names:List qB}{seen:qB→Bool}(h:oS l names seen [])(x:qB):seen x=true↔x∈closure l names:=by
 constructor
 ·exact h.in_seen x
 ·refine qBu (fun y=>seen y=true) (fun y hy=>?_) (fun p hp h1 y hy=>?_) x
  ·rcases h.start y hy with h1 | h1
   ·exact h1
   ·cases h1
  ·rcases h.refs p hp h1 y hy with h1 | h1
   ·exact h1
   ·cases h1
end Stl
namespace Stl
open Go Go.RowKit
def QueueAt (w:World)(O:Nat→Prop)(A:Option Addr)(n cap:Nat)(xs:List Value):Prop :=
 ∃ b off,Came w 1 A b off n cap xs∧(0<cap→O b)∧cap≤maxLen
structure Keeps (O:Nat→Prop)(w w':World):Prop where
 os:w'.os=w.os
 tape:w'.tape=w.tape
 output:w'.output=w.output
 size:w.heap.size≤w'.heap.size
 block:∀ k,k<w.heap.size→¬ O k→w'.heap[k]?=w.heap[k]?
theorem Keeps.below {base:Nat}{w w':World}(h:Keeps (fun k=>base≤k) w w')(hb:base≤w.heap.size):Below base w w' :=
 ⟨h.os,h.tape,h.output,h.size,fun k hk=>h.block k (zt hk hb) (Nat.not_le_of_lt hk)⟩
theorem qBv (b:Nat):∀ (vs:List Value) (o:Nat) (w:World),(w.setCells b o vs).heap.size=w.heap.size∧(w.setCells b o vs).tape=w.tape
 | [],_,_=>⟨rfl,rfl⟩
 | v::r,o,w=>by
  obtain⟨h1,h2⟩:=qBv b r (o+1) (w.setCell ⟨b,o,none⟩ v);exact⟨h1.trans (by simp[World.setCell]),h2.trans rfl⟩
section
variable {w w':World}{O:Nat→Prop}{A:Option Addr}{n cap:Nat}{xs:List Value}
theorem QueueAt.mono {O':Nat→Prop}(h:QueueAt w O A n cap xs)(hO:∀ b,b<w.heap.size→O b→O' b):QueueAt w O' A n cap xs:=by
 obtain⟨b,off,hc,h2,h3⟩:=h;exact⟨b,off,hc,fun h0=>hO b (hc.lt h0) (h2 h0),h3⟩
theorem QueueAt.go {O':Nat→Prop}(h:QueueAt w O A n cap xs)(hsz:w.heap.size≤w'.heap.size)(hb:∀ b,b<w.heap.size→O b→w'.heap[b]?=w.heap[b]?∧O' b):QueueAt w' O' A n cap xs:=by
 obtain⟨b,off,hc,h2,h3⟩:=h;have hk:0<cap→w'.heap[b]?=w.heap[b]?:=fun h0=>(hb b (hc.lt h0) (h2 h0)).1
 refine⟨b,off,⟨hc.le,hc.addr,fun h0=>zt (hc.lt h0) hsz,hc.oldsLen,fun j u hu=>?_,fun j hj=>?_⟩,fun h0=>(hb b (hc.lt h0) (h2 h0)).2,h3⟩
 ·have h0:0<cap:=by
   have:=(zM.1 hu).1;have:=hc.oldsLen;have:=hc.le;omega
  exact(zD1 (a:=⟨b,off+j,none⟩) (hk h0)).trans (hc.olds j u hu)
 ·have h0:0<cap:=by omega
  rw[zD1 (a:=⟨b,off+n*1+j,none⟩) (hk h0),zE1 (a:=⟨b,off+n*1+j,none⟩) (hk h0)];exact hc.spare j hj
theorem QueueAt.below (h:QueueAt w O A n cap xs)(hb:Below w.heap.size w w'):QueueAt w' O A n cap xs:=h.go hb.size fun b hl hO=>⟨hb.block b hl,hO⟩
theorem QueueAt.len (h:QueueAt w O A n cap xs):xs.length=n∧n≤cap∧cap≤maxLen:=by
 obtain⟨b,off,hc,_,h3⟩:=h;have:=hc.oldsLen;exact⟨by omega,hc.le,h3⟩
theorem QueueAt.head {x:Value}(h:QueueAt w O A (n+1) cap (x::xs)):∃ b off,A=some ⟨b,off,none⟩∧w.cell? ⟨b,off,none⟩=some x∧b<w.heap.size∧O b∧QueueAt w O (some ⟨b,off+1,none⟩) n (cap-1) xs:=by
 obtain⟨b,off,hc,h2,h3⟩:=h;have hle:=hc.le;have h0:0<cap:=by omega
 refine⟨b,off,hc.addr h0,hc.olds 0 x rfl,hc.lt h0,h2 h0,b,off+1,⟨by omega,fun _=>rfl,fun _=>hc.lt h0,?_,fun j u hu=>?_,fun j hj=>?_⟩,fun _=>h2 h0,by omega⟩
 ·have:=hc.oldsLen;simp only[zQ] at this;omega
 ·rw[show off+1+j=off+(j+1) by omega];exact hc.olds (j+1) u hu
 ·rw[show off+1+n*1+j=off+(n+1)*1+j by omega];exact hc.spare j (by omega)
theorem QueueAt.of_owns {base:Nat}{e:TypeId}(h:w.ownsRow base e 1 (.slice A n cap) n xs):QueueAt w (fun k=>base≤k) A n cap xs:=by
 obtain⟨h1,h2⟩:=h
 rcases h2 with ⟨e1,e2⟩ | ⟨g,cp,cur,e1,h2,h3,h4,h5,h6⟩
 ·injection e1 with a1 a2 a3
  subst a1 a2 a3;refine⟨0,0,⟨zo _,fun h=>by omega,fun h=>by omega,by simpa using h1,fun j u hu=>?_,fun j hj=>by omega⟩,fun h=>by omega,by decide⟩;have:=(zM.1 hu).1;omega
 ·injection e1 with a1 a2 a3
  subst a1 a3;clear a2;refine⟨g,0,⟨h4,fun _=>rfl,fun _=>(Array.getElem?_eq_some_iff.1 h3).1,h1,fun j u hu=>?_,fun j hj=>?_⟩,fun _=>h2,h5⟩
  ·have hj:j<n:=by
    have:=(zM.1 hu).1;omega
   rw[← h6.2,List.getElem?_take,zM1 (by omega)] at hu;simp only[World.cell?,h3,zv];simpa using hu
  ·have hlt:0+n*1+j<cur.size:=by omega
   refine⟨?_,?_⟩
   ·simp only[World.cell?,h3];simp only[zv,Nat.mul_one] at hlt ⊢;simp[hlt]
   ·simp[World.frozen?,h3]
theorem QueueAt.app {P:Program}{t tx ty e:TypeId}{i:TypeInfo}{z:Value}{bytes:Nat}(ht:P.underlying t=some (.slice e))(hi:P.info? e=some i)(hz:i.zero=some z)(hsize:i.size=1)(hby:i.bytes=bytes)(hzs:z.cells.size=1)
  (h:QueueAt w O A n cap xs) (x:Value) (m:Nat) (news:List Value) (hs:Src P 1 tx x m news w) (h63:n+m≤maxLen) (hbytes:(n+m)*bytes≤140737488355328) :
  ∃ A' cap' w',(Builtin.append_ #[t,tx] ty #[.slice A n cap,x]).run P w=.ok (.slice A' (n+m) cap') w'∧QueueAt w' (fun k=>O k∨w.heap.size≤k) A' (n+m) cap' (xs++news)∧Keeps O w w':=by
 obtain⟨b,off,hc,h2,h3⟩:=h;have hnl:=hs.newsLen;have hol:=hc.oldsLen;rw[Nat.mul_one] at hnl hol;by_cases hfit:n+m≤cap
 ·rcases Nat.eq_zero_or_pos cap with h0 | hcap
  ·subst h0;obtain rfl:m=0:=by omega
   obtain rfl:news=[]:=zH hnl;refine⟨A,0,w,run_append_nothing (P:=P) w t tx ty e i ht hi A n 0 hc.le x (by rw[hsize];exact hs),?_,⟨rfl,rfl,rfl,zo _,fun _ _ _=>rfl⟩⟩;rw[List.append_nil];exact⟨b,off,hc,fun h0=>.inl (h2 h0),h3⟩
  ·obtain rfl:=hc.addr hcap;have hsp:∀ j,j<news.length→(w.cell? ⟨b,off+n*i.size+j,none⟩).isSome=true∧w.frozen? ⟨b,off+n*i.size+j,none⟩=false:=fun j hj=>by
    rw[hsize];exact hc.spare j (by omega)
   have hrun:=run_append_room_src (P:=P) w t tx ty e i ht hi b off n cap x m news (by rw[hsize];exact hs) hfit (fun j hj=>(hsp j hj).1) (fun j hj=>(hsp j hj).2);rw[hsize,Nat.mul_one] at hrun;have hsp':∀ j,j<news.length→(w.cell? ⟨b,off+n+j,none⟩).isSome=true:=fun j hj=>by
    have:=(hsp j hj).1
    rwa [hsize,Nat.mul_one] at this
   obtain⟨s1,s2⟩:=qBv b news (off+n) w;refine⟨_,_,_,hrun,⟨b,off,⟨hfit,fun _=>rfl,fun _=>by rw[s1];exact hc.lt hcap,by rw[zP];omega,fun j u hu=>?_,fun j hj=>?_⟩,fun h0=>.inl (h2 h0),h3⟩,⟨World.os_setCells w b (off+n) news,s2,World.output_setCells w b (off+n) news,Nat.le_of_eq s1.symm,fun k hk hO=>?_⟩⟩
   ·rcases zu j n with hj | hj
    ·rw[List.getElem?_append_left (by omega)] at hu;rw[World.cell?_setCells_out b news (off+n) w ⟨b,off+j,none⟩ (fun _ _=>.inl (by simp only;omega))];exact hc.olds j u hu
    ·have hj2:j-n<news.length:=by
      have:=(zM.1 hu).1;simp only[zP] at this;omega
     rw[List.getElem?_append_right (by omega),hol,zL hj2] at hu;have:=World.cell?_setCells_in b news (off+n) w hsp' (j-n) hj2;rw[show off+n+(j-n)=off+j by omega] at this;rw[this];exact hu
   ·rw[Nat.mul_one] at hj;rw[World.frozen?_setCells,World.cell?_setCells_out b news (off+n) w ⟨b,off+(n+m)*1+j,none⟩ (fun _ _=>.inr (by simp only;omega))];have:=hc.spare (m+j) (by omega);rw[show off+n*1+(m+j)=off+(n+m)*1+j by omega] at this;exact this
   ·have hb2:=h2 hcap;exact World.heap_setCells_other w b (off+n) news hk (fun e=>hO (by rw[e];exact hb2))
 ·have hold:(Builtin.firstCells i.size n (.slice A n cap)).run P w.drew=.ok xs.toArray w.drew:=by
   rw[hsize]
   cases A with
   | none =>
    have hc0:cap=0:=by
     rcases Nat.eq_zero_or_pos cap with h0 | h0
     ·exact h0
     ·exact absurd (hc.addr h0) (by simp)
    have hn0:n=0:=by have:=hc.le;omega
    subst hc0 hn0;obtain rfl:xs=[]:=zH hol;exact run_firstCells_none w.drew 1 0 0 0
   | some a =>
    refine run_firstCells_some w.drew 1 n a n cap xs (by omega) (fun j u hu=>?_);have h0:0<cap:=by
     have:=(zM.1 hu).1;have:=hc.le;omega
    have:=hc.addr h0;injection this with this
    subst this;have e1:(⟨b,off,none⟩:Addr).add j=⟨b,off+j,none⟩:=by unfold Addr.add;split<;>simp_all
    rw[e1];exact hc.olds j u hu
  have hrun:=run_append_grow_src (P:=P) w t tx ty e i z ht hi hz A n cap xs hold x m news (by rw[hsize];exact hs) (by omega) (by unfold maxLen at h63;omega) (by rw[hby];exact growslice_fits (by omega) hbytes);have hge:=grownCap_ge w (n+m) cap e;have hcm:=grownCap_le_maxLen w (n+m) cap e h63;refine⟨_,_,_,hrun,?_,⟨rfl,rfl,rfl,by simp,fun k hk _=>Below.heap_alloc w.drew _ k hk⟩⟩;generalize grownCap w (n+m) cap e=C at *;have hL:(xs++news).length=n+m:=by rw[zP];omega
  have hz2:(Builtin.zeroCells z.cells (C-(n+m))).size=C-(n+m):=by rw[size_zeroCells,hzs,Nat.mul_one]
  have hce:∀ j,(w.drew.alloc (.cells ((xs++news).toArray++Builtin.zeroCells z.cells (C-(n+m))) e)).cell? ⟨w.heap.size,0+j,none⟩=((xs++news).toArray++Builtin.zeroCells z.cells (C-(n+m)))[j]?:=fun j=>by rw[zv];exact World.cell?_alloc_new w.drew _ _ j
  refine⟨w.heap.size,0,⟨hge,fun _=>rfl,fun _=>by simp,by omega,fun j u hu=>?_,fun j hj=>?_⟩,fun _=>.inr (zo _),hcm⟩
  ·rw[hce];have:=(zM.1 hu).1;rw[Array.getElem?_append_left (by simp;simpa using this)];simpa using hu
  ·have e1:0+(n+m)*1+j=0+((n+m)+j):=by omega
   rw[e1,hce];refine⟨?_,by rw[zv];exact World.frozen?_alloc_new w.drew _ _ _⟩;rw[Array.getElem?_eq_getElem (by rw[Array.size_append,hz2,List.size_toArray,hL];omega)];rfl
end
theorem qAp {P:Program}{w:World}{ops:Array Oper}{rest:List Oper}{o:Oper}{a:Act}{Q:Exit→Act→World→Prop}(hgd:o.guard=none)(s x:Operand)(t tx:TypeId)
  (ho:o.op=.call { callee:=.builtin .append,args:=#[s,x],argTypes:=#[t,tx] }) {v y v':Value} {w':World} (hs:a.eval s=v) (hx:a.eval x=y)
  (hr:(Builtin.append_ #[t,tx] o.type #[v,y]).run P w=.ok v' w') (h:wpList P ops Q rest (a.put o.dst v') w'):wpList P ops Q (o::rest) a w :=
 wpList_plain hgd fun _ hK=>by
  unfold Oper.wp execOp;simp only[ho,resolve,invoke,builtin,Sem.run_bind,Sem.run_pure,Result.andThen_ok,List.map_toArray,zV,List.map_nil,hs,hx,hr];exact hK _ _ h
end Stl
namespace Stl
def unl (t:Tab)(n:Nat):Tab:=match t.unlink n with | .ok t1=>t1 | .error _=>t
theorem jF (t:Tab)(s:qB)(n:Nat)(r:List (qB×Nat)):qK t ((s,n)::r)=qK (unl t n) r:=rfl
theorem wB {t:Tab}{n:Nat}{x:Ino}(h:t.at_ n=some x):unl t n={ t with l:=t.l.set n (if x.links=1 then none else some { x with links:=x.links-1 }) }:=by
 unfold unl Tab.unlink;rw[h]
theorem gG {t:Tab}{n:Nat}(h:t.at_ n=none):unl t n=t:=by
 unfold unl Tab.unlink;rw[h]
theorem nS {t:Tab}{n m:Nat}(h:m≠n):(unl t n).at_ m=t.at_ m:=by
 cases hx:t.at_ n with
 | none=>rw[gG hx]
 | some x =>
  rw[wB hx];have:=uU t.l n (if x.links=1 then none else some { x with links:=x.links-1 }) (nH hx) m;rw[zL1 h] at this;exact this
theorem qMH (t:Tab)(m n:Nat):unl (unl t m) n=unl (unl t n) m:=by
 by_cases e:m=n
 ·rw[e]
 ·cases hm:t.at_ m with
  | none =>
   rw[gG hm,gG (t:=unl t n) ((nS e).trans hm)]
  | some x =>
   cases hn:t.at_ n with
   | none=>rw[gG hn,gG (t:=unl t m) ((nS (Ne.symm e)).trans hn)]
   | some y =>
    rw[wB (t:=unl t m) ((nS (Ne.symm e)).trans hn),wB (t:=unl t n) ((nS e).trans hm),wB hm,wB hn];simp only[List.set_comm _ _ e]
theorem qAt:∀ (a b:List (qB×Nat)) (t:Tab),qK t (a++b)=qK (qK t a) b
 | [],b,t=>rfl
 | (s,n)::a,b,t=>by
  rw[zE,jF,jF,qAt a b]
theorem qDh (a:List (qB×Nat))(s:qB)(n:Nat)(t:Tab):qK t (a++[(s,n)])=unl (qK t a) n:=by
 rw[qAt];rfl
theorem qDm {a b:List (qB×Nat)}(h:a.Perm b):∀ t,qK t a=qK t b:=by
 induction h with
 | nil=>intro t;rfl
 | cons x _ ih =>
  intro t;obtain⟨s,n⟩:=x;rw[jF,jF,ih]
 | swap x y l =>
  intro t;obtain⟨s,n⟩:=x;obtain⟨s2,n2⟩:=y;rw[jF,jF,jF,jF,qMH]
 | trans _ _ h1 h2=>intro t;rw[h1,h2]
theorem qAS:∀ (a:List (qB×Nat)) (t:Tab),(qK t a).l.length=t.l.length
 | [],t=>rfl
 | (s,n)::a,t=>by
  rw[jF,qAS a]
  cases hx:t.at_ n with
  | none=>rw[gG hx]
  | some x=>rw[wB hx];simp
theorem qFc (n:Nd):(items n).length≤200:=by
 unfold items;split
 ·rename_i h
  exact(items_well h).1
 ·simp
theorem wR {d:Dirs}(hd:vC d){e:Ent}(he:e∈d.l):e.f.length≤200:=by
 have h1:=congrArg List.length (hd.files e he);rw[zT] at h1;rw[h1];unfold qR;rw[zT];refine zq (zS _ _) ?_;exact qFc e.n
theorem qG6 {d:Dirs}(hd:vC d):(nums d.l).length≤200*d.l.length:=by
 have:∀ l:List Ent,(∀ e∈l,e.f.length≤200)→(nums l).length≤200*l.length:=by
  intro l
  induction l with
  | nil=>intro _;simp[nums]
  | cons e r ih =>
   intro h;have h1:=ih (fun x hx=>h x (by simp[hx]));have h2:=h e (by simp);have:nums (e::r)=e.f.map (·.2)++nums r:=by simp[nums]
   rw[this,zP,zT,zQ];omega
 exact this d.l (fun e he=>wR hd he)
theorem pH {d:Dirs}(hd:vC d){n:Nat}{x:Ino}(hx:d.t.at_ n=some x):x.links≤200*d.l.length:=by
 rw[hd.links n x hx];exact zq List.count_le_length (qG6 hd)
theorem qIS {d:Dirs}(hd:vC d){e:Ent}(he:e∈d.l){v rest:List (qB×Nat)}{s:qB}{n:Nat}(hp:(v++(s,n)::rest).Perm e.f) :
  yX (qK d.t v)∧(qK d.t v).disk=d.t.disk∧∃ x,(qK d.t v).at_ n=some x∧x.links≤200*d.l.length+200:=by
 have hc:∀ m,(e.f.map (·.2)).count m=(v.map (·.2)).count m+(((s,n)::rest).map (·.2)).count m:=fun m=>by
  rw[← ((hp.map (·.2)).count_eq m),zU,List.count_append]
 have hmem:∀ q∈v++(s,n)::rest,(d.t.at_ q.2).isSome:=fun q hq=>hd.there q.2 (za.2 ⟨e,he,zb.2 ⟨q,hp.subset hq,rfl⟩⟩)
 obtain⟨u1,u2,u3,u4,_⟩:=qAf v d.t (((s,n)::rest).map (·.2)++nums (d.l.filter fun x=>x.k != e.k)) hd.tab
  (fun m x hx=>by rw[hd.links m x hx,qBI hd.keys he,hc,List.count_append];omega)
  (fun m hm=>by
   obtain⟨q,hq,rfl⟩:=zb.1 hm
   exact hmem q (List.mem_append_left _ hq))
 have h4:=u4 n (by rw[List.count_append];simp;omega) (hmem (s,n) (by simp));obtain⟨x,hx⟩:=zy.1 h4;refine⟨u1,u2,x,hx,?_⟩;rw[(u3 n x hx).1,List.count_append];have h1:(((s,n)::rest).map (·.2)).count n≤200:=by
  refine zq List.count_le_length ?_;have:=hp.length_eq;have:=wR hd he;simp only[zP,zQ,zT] at *;omega
 have h2:(nums (d.l.filter fun x=>x.k != e.k)).count n≤200*d.l.length:=by
  refine zq ?_ (qG6 hd);rw[show (nums (d.l.filter fun x=>x.k != e.k)).count n=(nums d.l).count n-(e.f.map (·.2)).count n by rw[qBI hd.keys he];omega];exact zq (Nat.sub_le _ _) List.count_le_length
 omega
end Stl
