/- Lemmas. -/
import Derived.Test.YtbmkaekimccdgaaGreatDoorBm01
set_option maxHeartbeats 16000000
set_option maxRecDepth 1000000
set_option linter.all false
namespace Stl
section link
variable {t t':Tab}{n:Nat}
theorem wW (h:t.link n=.ok t'):∃ x,t.at_ n=some x∧t'={ t with l:=t.l.set n (some { x with links:=x.links+1 }) }:=by
 unfold Tab.link at h
 cases hx:t.at_ n with
 | none=>rw[hx] at h;cases h
 | some x=>rw[hx] at h;injection h with h;exact⟨x,rfl,h.symm⟩
theorem pL {x:Ino}(hx:t.at_ n=some x)(h:t.link n=.ok t')(m:Nat):t'.at_ m=if m=n then some { x with links:=x.links+1 } else t.at_ m:=by
 obtain⟨y,hy,rfl⟩:=wW h;rw[hx] at hy;injection hy with hy
 subst hy;exact uU _ _ _ (nH hx) m
theorem qIc {x:Ino}(hx:t.at_ n=some x):∃ t',t.link n=.ok t':=by
 unfold Tab.link;rw[hx];exact⟨_,rfl⟩
theorem xC (h:t.unlink n=.ok t'):∃ x,t.at_ n=some x∧t'={ t with l:=t.l.set n (if x.links=1 then none else some { x with links:=x.links-1 }) }:=by
 unfold Tab.unlink at h
 cases hx:t.at_ n with
 | none=>rw[hx] at h;cases h
 | some x=>rw[hx] at h;injection h with h;exact⟨x,rfl,h.symm⟩
theorem nR {x:Ino}(hx:t.at_ n=some x)(h:t.unlink n=.ok t')(m:Nat):t'.at_ m=if m=n then (if x.links=1 then none else some { x with links:=x.links-1 }) else t.at_ m:=by
 obtain⟨y,hy,rfl⟩:=xC h;rw[hx] at hy;injection hy with hy
 subst hy;exact uU _ _ _ (nH hx) m
theorem qBJ {x:Ino}(hx:t.at_ n=some x):∃ t',t.unlink n=.ok t':=by
 unfold Tab.unlink;rw[hx];exact⟨_,rfl⟩
theorem qDs {t t':Tab}(ht:yX t)(hd:t'.disk=t.disk)(h:∀ m y,t'.at_ m=some y→∃ x,t.at_ m=some x∧y.blocks=x.blocks∧y.bytes=x.bytes∧1≤y.links):yX t':=by
 constructor
 ·rw[hd];exact ht.whole
 ·intro m y hy;obtain⟨x,hx,e1,_⟩:=h m y hy;rw[e1];exact ht.nodup m x hx
 ·intro m y hy;obtain⟨x,hx,e1,_⟩:=h m y hy;rw[e1,hd];exact ht.inside m x hx
 ·intro m y hy;obtain⟨x,hx,e1,e2,_⟩:=h m y hy;rw[e1,e2];exact ht.need m x hx
 ·intro m y hy;obtain⟨x,hx,_,_,e3⟩:=h m y hy;exact e3
 ·intro m y hy;obtain⟨x,hx,_,e2,_⟩:=h m y hy;rw[e2];exact ht.bytes m x hx
 ·intro a b y z k hy hz h1 h2;obtain⟨x,hx,e1,_⟩:=h a y hy;obtain⟨u,hu,e2,_⟩:=h b z hz;exact ht.apart a b x u k hx hu (by rw[← e1];exact h1) (by rw[← e2];exact h2)
theorem qKp (ht:yX t)(h:t.link n=.ok t'):yX t':=by
 obtain⟨x,hx,e⟩:=wW h;refine qDs ht (by rw[e]) fun m y hy=>?_
 rw[pL hx h] at hy;split at hy
 ·rename_i em;injection hy with hy;subst hy;subst em
  exact⟨x,hx,rfl,rfl,by simp⟩
 ·exact⟨y,hy,rfl,rfl,ht.links m y hy⟩
theorem qEK (ht:yX t)(h:t.unlink n=.ok t'):yX t':=by
 obtain⟨x,hx,e⟩:=xC h;refine qDs ht (by rw[e]) fun m y hy=>?_
 rw[nR hx h] at hy;split at hy
 ·rename_i em
  split at hy
  ·cases hy
  ·injection hy with hy;subst hy;subst em
   have:=ht.links m x hx;exact⟨x,hx,rfl,rfl,by simp;omega⟩
 ·exact⟨y,hy,rfl,rfl,ht.links m y hy⟩
theorem nP {t t':Tab}(hd:t'.disk=t.disk){m:Nat}{x y:Ino}(hx:t.at_ m=some x)(hy:t'.at_ m=some y)(h1:y.blocks=x.blocks)(h2:y.bytes=x.bytes)(h3:y.sum=x.sum):t'.read m=t.read m:=by
 unfold Tab.read;rw[hx,hy];have:t'.raw y=t.raw x:=by unfold Tab.raw;rw[hd,h1,h2]
 simp only[this,h3]
theorem qJv (h:t.link n=.ok t')(m:Nat):t'.read m=t.read m:=by
 obtain⟨x,hx,e⟩:=wW h;have ha:=pL hx h m;by_cases em:m=n
 ·subst em;rw[zM1 rfl] at ha;exact nP (by rw[e]) hx ha rfl rfl rfl
 ·rw[zL1 em] at ha
  cases hm:t.at_ m with
  | none=>rw[hm] at ha;unfold Tab.read;rw[hm,ha]
  | some y=>rw[hm] at ha;exact nP (by rw[e]) hm ha rfl rfl rfl
theorem qCM (h:t.unlink n=.ok t'){m:Nat}(hm:(t'.at_ m).isSome):t'.read m=t.read m:=by
 obtain⟨x,hx,e⟩:=xC h;have ha:=nR hx h m;by_cases em:m=n
 ·subst em;rw[zM1 rfl] at ha;split at ha
  ·rw[ha] at hm;cases hm
  ·exact nP (by rw[e]) hx ha rfl rfl rfl
 ·rw[zL1 em] at ha
  cases hm2:t.at_ m with
  | none=>rw[hm2] at ha;rw[ha] at hm;cases hm
  | some y=>rw[hm2] at ha;exact nP (by rw[e]) hm2 ha rfl rfl rfl
end link
theorem qBR:∀ (xs:List It) (t:Tab) (f:List (qB×Nat)) (t':Tab),yX t→makeAll t xs=.ok (f,t') →
  yX t'∧f.map (·.1)=xs.map (fun x=>told x.path)∧(f.map (·.2)).Nodup∧(∀ m∈f.map (·.2),t.at_ m=none) ∧
   (∀ m,m∉f.map (·.2)→t'.at_ m=t.at_ m∧t'.read m=t.read m)∧(∀ m∈f.map (·.2),∃ y,t'.at_ m=some y∧y.links=1) ∧
   (∀ p∈f.zip xs,t'.read p.1.2=.ok p.2.n.data∧(t'.at_ p.1.2).map (·.exec)=some p.2.n.exec)∧t'.disk.length=t.disk.length
 | [],t,f,t',ht,h=>by
  simp only[makeAll] at h;injection h with h
  injection h with h1 h2
  subst h1;subst h2;exact⟨ht,rfl,List.nodup_nil,by simp,fun _ _=>⟨rfl,rfl⟩,by simp,by simp,rfl⟩
 | x::r,t,f,t',ht,h=>by
  simp only[makeAll] at h
  cases hm:t.make x.n.data x.n.exec with
  | error e=>rw[hm] at h;cases h
  | ok q =>
   obtain⟨n,t1⟩:=q;rw[hm] at h;simp only at h
   cases ha:makeAll t1 r with
   | error e=>rw[ha] at h;cases h
   | ok q2 =>
    obtain⟨l,t2⟩:=q2;rw[ha] at h;injection h with h
    injection h with h1 h2
    subst h1;subst h2;obtain⟨i1,i2,i3,i4,i5,i6,i7,i8⟩:=qBR r t1 l t2 (qKd ht hm) ha;have hat:=mV hm;have hwas:=pK hm;have hn:n∉l.map (·.2):=fun hn=>by
     have:=i4 n hn;rw[hat,zM1 rfl] at this
     cases this
    have e5:=i5 n hn;have hdl:t1.disk.length=t.disk.length:=by obtain⟨_,_,_,et⟩:=yP hm;rw[et];exact jX _ _ _
    refine⟨i1,by simp[i2],?_,?_,?_,?_,?_,by rw[i8,hdl]⟩
    ·simp only[zV,List.nodup_cons];exact⟨hn,i3⟩
    ·intro m hm2
     rcases zY.1 hm2 with rfl | hm2
     ·exact hwas
     ·have:=i4 m hm2;rw[hat] at this;split at this
      ·cases this
      ·exact this
    ·intro m hm2;simp only[zV,zY,not_or] at hm2;obtain⟨j1,j2⟩:=i5 m hm2.2;exact⟨by rw[j1,hat,zL1 hm2.1],by rw[j2];exact qCR ht hm hm2.1⟩
    ·intro m hm2
     rcases zY.1 hm2 with rfl | hm2
     ·exact⟨_,by rw[e5.1,hat,zM1 rfl],rfl⟩
     ·exact i6 m hm2
    ·intro p hp;rw[List.zip_cons_cons] at hp
     rcases zY.1 hp with rfl | hp
     ·exact⟨by rw[e5.2];exact qLc ht hm,by rw[e5.1,hat,zM1 rfl];rfl⟩
     ·exact i7 p hp
theorem qAq:∀ (xs:List It) (t:Tab),yX t→(∀ x∈xs,x.n.data.length≤2000)→(xs.map fun x=>jL x.n.data.length).sum≤t.free.length→∃ f t',makeAll t xs=.ok (f,t')∧t'.free.length+(xs.map fun x=>jL x.n.data.length).sum=t.free.length
 | [],t,_,_,_=>⟨[],t,rfl,by simp⟩
 | x::r,t,ht,h1,h2=>by
  simp only[zV,List.sum_cons] at h2 ⊢;obtain⟨n,t1,hm⟩:=qID (t:=t) (exec:=x.n.exec) (h1 x (by simp)) (by omega);have hf:=qCg ht hm;obtain⟨l,t2,ha,hl⟩:=qAq r t1 (qKd ht hm) (fun y hy=>h1 y (by simp[hy])) (by omega);exact⟨(told x.path,n)::l,t2,by simp only[makeAll,hm,ha],by omega⟩
def nums (l:List Ent):List Nat:=l.flatMap fun e=>e.f.map (·.2)
structure vC (d:Dirs):Prop where
 tab:yX d.t
 keys:d.l.Pairwise (fun a b=>a.k<b.k)
 next:∀ e∈d.l,e.k<d.next
 well:∀ e∈d.l,treeErr e.n=0
 bare:∀ e∈d.l,jA e.n=e.n
 files:∀ e∈d.l,e.f.map (·.1)=qR e.n
 links:∀ n x,d.t.at_ n=some x→x.links=(nums d.l).count n
 there:∀ n∈nums d.l,(d.t.at_ n).isSome
theorem vS (k d:qB)(e:Bool)(nms:List qB):ownErrP k d e nms=0↔(k=kFile∨k=kDir∨k=kLink)∧(k≠kDir→nms=[])∧(k≠kFile→e=false)∧(k=kDir→d=[]) ∧
  d.length≤2000∧(k=kLink→1≤d.length∧d.length≤40∧∀ c∈d,33≤c∧c≤126)∧(∀ p∈nms,isName p=true)∧gL nms=true:=by
 unfold ownErrP;have hbyte:(d.any fun c=>decide (c<33)||decide (126<c))=false↔∀ c∈d,33≤c∧c≤126:=by
  rw[List.any_eq_false];constructor
  ·intro h c hc;have:=h c hc;simpa using this
  ·intro h c hc;have:=h c hc;simpa using this
 constructor
 ·intro h;split at h
  ·cases h
  ·rename_i h1
   split at h
   ·cases h
   ·rename_i h2
    split at h
    ·cases h
    ·rename_i h3
     split at h
     ·cases h
     ·rename_i h4
      split at h
      ·cases h
      ·rename_i h5
       split at h
       ·cases h
       ·rename_i h6
        refine⟨?_,?_,?_,?_,by omega,?_,?_,by simpa using h6⟩
        ·by_cases e1:k=kFile
         ·exact .inl e1
         ·by_cases e2:k=kDir
          ·exact .inr (.inl e2)
          ·by_cases e3:k=kLink
           ·exact .inr (.inr e3)
           ·exact absurd ⟨e1,e2,e3⟩ h1
        ·intro hk;by_cases e1:nms=[]
         ·exact e1
         ·exact absurd (.inl ⟨hk,e1⟩) h2
        ·intro hk
         cases e
         ·rfl
         ·exact absurd (.inr (.inl ⟨hk,rfl⟩)) h2
        ·intro hk;by_cases e1:d=[]
         ·exact e1
         ·exact absurd (.inr (.inr ⟨hk,e1⟩)) h2
        ·intro hk;have h7:¬ (d.length<1∨40<d.length):=fun h=>h3 (.inr ⟨hk,h⟩)
         refine⟨by omega,by omega,hbyte.1 ?_⟩
         cases hb:(d.any fun c=>decide (c<33)||decide (126<c))
         ·rfl
         ·exact absurd ⟨hk,hb⟩ h4
        ·have:nms.all isName=true:=by simpa using h5
         exact List.all_eq_true.1 this
 ·rintro ⟨a1,a2,a3,a4,a5,a6,a7,a8⟩;rw[zL1 (fun h=>by rcases a1 with h1 | h1 | h1<;>simp[h1] at h),zL1,zL1,zL1,zL1,zL1]
  ·simp[a8]
  ·have:nms.all isName=true:=List.all_eq_true.2 a7;simp[this]
  ·rintro ⟨h1,h2⟩;rw[hbyte.2 (a6 h1).2.2] at h2
   cases h2
  ·rintro (h | ⟨h1,h2⟩)
   ·omega
   ·have:=a6 h1;omega
  ·rintro (⟨h1,h2⟩ | ⟨h1,h2⟩ | ⟨h1,h2⟩)
   ·exact h2 (a2 h1)
   ·rw[a3 h1] at h2;cases h2
   ·exact h2 (a4 h1)
mutual
theorem qHd:∀ (n:Nd) (deep c:Nat),(∀ deep c,(chk ownErr n deep c).1=0→(chk ownErr (jA n) deep c)=(chk ownErr n deep c))
 | .mk k d e ks,_,_=>fun deep c h=>by
  have hl:=qE0 ks (deep+1) (c+1);unfold chk at h;split at h
  ·simp at h
  ·rename_i h1
   split at h
   ·simp at h
   ·rename_i h2
    split at h
    ·rename_i h3
     have hs:(jO ks).map (·.1)=ks.map (·.1):=qAN ks;have ho:ownErr (jA (.mk k d e ks))=0:=by
      have h3':ownErrP k d e (ks.map (·.1))=0:=h3;obtain⟨a1,a2,a3,a4,a5,a6,a7,a8⟩:=(vS _ _ _ _).1 h3';show ownErrP k (if k=kFile then [] else d) e ((jO ks).map (·.1))=0;rw[hs];refine(vS _ _ _ _).2 ⟨a1,a2,a3,fun h=>?_,?_,fun h=>?_,a7,a8⟩
      ·split
       ·rfl
       ·exact a4 h
      ·split
       ·simp
       ·exact a5
      ·rw[zL1 (fun e=>by rw[h] at e;revert e;decide)];exact a6 h
     unfold jA at ho ⊢;unfold chk;rw[zL1 h1,zL1 h2,zM1 ho,zL1 h1,zL1 h2,zM1 h3];exact hl h
    ·rename_i h3
     exact absurd h h3
theorem qE0:∀ (l:List (qB×Nd)) (deep c:Nat),(chkL ownErr l deep c).1=0→chkL ownErr (jO l) deep c=chkL ownErr l deep c
 | [],_,_,_=>rfl
 | (nm,x)::r,deep,c,h=>by
  have h1:=qHd x 0 0 deep c;have h2:=qE0 r deep (chk ownErr x deep c).2;unfold chkL at h;split at h
  ·rename_i h3
   simp only[jO,chkL,h1 h3,h3,if_true];exact h2 h
  ·rename_i h3
   exact absurd h h3
theorem qAN:∀ l:List (qB×Nd),(jO l).map (·.1)=l.map (·.1)
 | []=>rfl
 | (nm,x)::r=>by simp[jO,qAN r]
end
theorem qB2 {n:Nd}(h:treeErr n=0):treeErr (jA n)=0:=by
 unfold treeErr at h ⊢;rw[qHd n 0 0 0 0 h];exact h
mutual
theorem qES:∀ n:Nd,jA (jA n)=jA n
 | .mk k d e ks=>by
  have h:=qBx ks;simp only[jA,h];split<;>rfl
theorem qBx:∀ l:List (qB×Nd),jO (jO l)=jO l
 | []=>rfl
 | (nm,x)::r=>by simp[jO,qES x,qBx r]
end
mutual
theorem qFA:∀ (n:Nd) (p:qB) (deep:Nat),flat (jA n) p deep=(flat n p deep).map fun x=>⟨x.path,x.deep,jA x.n⟩
 | .mk k d e ks,p,deep=>by
  have h:=qDz ks p (deep+1);simp only[jA,flat,zV,h]
theorem qDz:∀ (l:List (qB×Nd)) (p:qB) (deep:Nat),flatL (jO l) p deep=(flatL l p deep).map fun x=>⟨x.path,x.deep,jA x.n⟩
 | [],_,_=>rfl
 | (nm,x)::r,p,deep=>by simp[jO,flatL,qFA x,qDz r]
end
theorem qKw (n:Nd):(jA n).kind=n.kind:=by cases n;rfl
theorem qFD {n:Nd}(h:treeErr n=0):qR (jA n)=qR n:=by
 unfold qR items;rw[zM1 h,zM1 (qB2 h),qFA,List.filter_map,zW];have e1:((fun x:It=>x.n.kind==kFile)∘fun x:It=>(⟨x.path,x.deep,jA x.n⟩:It))=fun x:It=>x.n.kind==kFile:=by
  funext x;simp[qKw]
 rw[e1];rfl
mutual
theorem qGb:∀ (n:Nd) (deep c:Nat) (p:qB) (d:Nat),(chk ownErr n deep c).1=0→∀ x∈flat n p d,ownErr x.n=0
 | .mk k s e ks,deep,c,p,d,h=>by
  have hl:=qHn ks (deep+1) (c+1) p (d+1);unfold chk at h;split at h
  ·simp at h
  ·split at h
   ·simp at h
   ·split at h
    ·rename_i h3
     intro x hx;unfold flat at hx
     rcases zY.1 hx with rfl | hx
     ·exact h3
     ·exact hl h x hx
    ·rename_i h3
     exact absurd h h3
theorem qHn:∀ (l:List (qB×Nd)) (deep c:Nat) (p:qB) (d:Nat),(chkL ownErr l deep c).1=0→∀ x∈flatL l p d,ownErr x.n=0
 | [],_,_,_,_,_=>by simp[flatL]
 | (nm,y)::r,deep,c,p,d,h=>by
  unfold chkL at h;split at h
  ·rename_i h1
   have a:=qGb y deep c (p++47::nm) d h1;have b:=qHn r deep (chk ownErr y deep c).2 p d h;intro x hx;unfold flatL at hx
   rcases zX.1 hx with hx | hx
   ·exact a x hx
   ·exact b x hx
  ·rename_i h1
   exact absurd h h1
end
theorem qA6 {n:Nd}(h:treeErr n=0):∀ x∈flat n [] 0,ownErr x.n=0:=qGb n 0 0 [] 0 h
theorem qAj:∀ l:List qB,gL l=true→l.Pairwise (·<·)
 | [],_=>List.Pairwise.nil
 | [a],_=>by simp
 | a::b::r,h=>by
  simp only[gL,zC,decide_eq_true_eq] at h;have ih:=qAj (b::r) h.2;refine zi.2 ⟨fun y hy=>?_,ih⟩
  rcases zY.1 hy with rfl | hy
  ·exact h.1
  ·exact qCD h.1 ((zi.1 ih).1 y hy)
theorem qAn {s:qB}(h:isName s=true):47∉s:=fun hm=>by
 have:=List.all_eq_true.1 (qFJ h) 47 hm;revert this;decide
def qOM (r:qB):Prop:=r=[]∨∃ q,r=47::q
mutual
theorem qFg:∀ (n:Nd) (p:qB) (d:Nat),∀ x∈flat n p d,∃ r,x.path=p++r∧qOM r
 | .mk k s e ks,p,d=>by
  have hl:=wO ks p (d+1);intro x hx;unfold flat at hx
  rcases zY.1 hx with rfl | hx
  ·exact⟨[],by simp,.inl rfl⟩
  ·obtain⟨nm,r,hnm,e,hg⟩:=hl x hx;exact⟨47::(nm++r),by rw[e],.inr ⟨_,rfl⟩⟩
theorem wO:∀ (l:List (qB×Nd)) (p:qB) (d:Nat),∀ x∈flatL l p d,∃ nm r,nm∈l.map (·.1)∧x.path=p++47::(nm++r)∧qOM r
 | [],_,_=>by simp[flatL]
 | (nm,y)::r,p,d=>by
  have a:=qFg y (p++47::nm) d;have b:=wO r p d;intro x hx;unfold flatL at hx
  rcases zX.1 hx with hx | hx
  ·obtain⟨q,e,hg⟩:=a x hx;exact⟨nm,q,by simp,by rw[e];simp,hg⟩
  ·obtain⟨nm',q,h1,h2,h3⟩:=b x hx;exact⟨nm',q,by simp[h1],h2,h3⟩
end
theorem qHo:∀ {a b r q:qB},47∉a→47∉b→qOM r→qOM q→a++r=b++q→a=b
 | [],[],_,_,_,_,_,_,_=>rfl
 | [],y::b,r,q,_,hb,hr,_,e=>by
  simp only[zY,not_or] at hb
  rcases hr with rfl | ⟨s,rfl⟩
  ·simp at e
  ·simp at e;exact absurd e.1 hb.1
 | x::a,[],r,q,ha,_,_,hq,e=>by
  simp only[zY,not_or] at ha
  rcases hq with rfl | ⟨s,rfl⟩
  ·simp at e
  ·simp at e;exact absurd e.1.symm ha.1
 | x::a,y::b,r,q,ha,hb,hr,hq,e=>by
  simp only[zY,not_or] at ha hb;simp only[zE,zD] at e;rw[e.1,qHo ha.2 hb.2 hr hq e.2]
theorem qA3 {n:Nd}(h:ownErr n=0):(∀ p∈n.kids,isName p.1=true)∧(n.kids.map (·.1)).Pairwise (·<·):=by
 obtain⟨_,_,_,_,_,_,a7,a8⟩:=(vS _ _ _ _).1 h;exact⟨fun p hp=>a7 p.1 (ze hp),qAj _ a8⟩
theorem qCQ {n:Nd}(h:ownErr n=0)(hk:n.kind=kFile):n.kids=[]∧n.data.length≤2000:=by
 obtain⟨_,a2,_,_,a5,_,_,_⟩:=(vS _ _ _ _).1 h;have:=a2 (by rw[hk];decide);exact⟨by simpa using this,a5⟩
mutual
theorem qDp:∀ (n:Nd) (p:qB) (d:Nat),(∀ x∈flat n p d,ownErr x.n=0)→((flat n p d).map (·.path)).Nodup
 | .mk k s e ks,p,d,h=>by
  have h0:ownErr (.mk k s e ks)=0:=h ⟨p,d,.mk k s e ks⟩ (by simp[flat]);obtain⟨hn,hr⟩:=qA3 h0;have hl:=qCp ks p (d+1) (fun x hx=>h x (by simp[flat,hx])) hn hr;unfold flat;rw[zV,List.nodup_cons];refine⟨fun hm=>?_,hl⟩;obtain⟨x,hx,e⟩:=zb.1 hm;obtain⟨nm,r,_,e2,_⟩:=wO ks p (d+1) x hx;have:=congrArg List.length (e.symm.trans e2);simp at this
theorem qCp:∀ (l:List (qB×Nd)) (p:qB) (d:Nat),(∀ x∈flatL l p d,ownErr x.n=0)→(∀ q∈l,isName q.1=true)→(l.map (·.1)).Pairwise (·<·)→((flatL l p d).map (·.path)).Nodup
 | [],_,_,_,_,_=>by simp[flatL]
 | (nm,y)::r,p,d,h,hn,hr=>by
  obtain⟨r1,r2⟩:=zi.1 hr;have a:=qDp y (p++47::nm) d (fun x hx=>h x (by simp[flatL,hx]));have b:=qCp r p d (fun x hx=>h x (by simp[flatL,hx])) (fun q hq=>hn q (by simp[hq])) r2;unfold flatL;rw[zU,List.nodup_append];refine⟨a,b,fun u hu v hv e=>?_⟩;subst e;obtain⟨x,hx,e1⟩:=zb.1 hu;obtain⟨z,hz,e2⟩:=zb.1 hv;obtain⟨q,e3,hg⟩:=qFg y (p++47::nm) d x hx;obtain⟨nm',q',hnm,e4,hg'⟩:=wO r p d z hz;have hs:nm++q=nm'++q':=by
   have h1:=e1.symm.trans e3;have h2:=e2.symm.trans e4;rw[h1] at h2;simpa using h2
  obtain⟨w,hw,ew⟩:=zb.1 hnm;have hne:=qHo (qAn (hn (nm,y) (by simp))) (by rw[← ew];exact qAn (hn w (by simp[hw]))) hg hg' hs;have:=r1 nm' hnm;rw[← hne] at this;exact blt_irrefl _ this
end
theorem qMn {n:Nd}{x y:It}(hx:x∈flat n [] 0)(hy:y∈flat n [] 0)(e:told x.path=told y.path)(h:∀ x∈flat n [] 0,ownErr x.n=0):x.path=y.path:=by
 have key:∀ z∈flat n [] 0,z.path≠[47]:=by
  intro z hz e
  cases n with
  | mk k s e' ks =>
   unfold flat at hz
   rcases zY.1 hz with rfl | hz
   ·simp at e
   ·obtain⟨nm,r,hnm,e2,_⟩:=wO ks [] 1 z hz;rw[e] at e2;simp at e2;obtain⟨w,hw,ew⟩:=zb.1 hnm;have h0:ownErr (.mk k s e' ks)=0:=h ⟨[],0,.mk k s e' ks⟩ (by simp[flat]);have:=qHk ((qA3 h0).1 w hw);rw[ew,e2.1] at this;simp at this
 unfold told at e;split at e<;>split at e
 ·rename_i h1 h2;rw[h1,h2]
 ·exact absurd e.symm (key y hy)
 ·exact absurd e (key x hx)
 ·exact e
theorem xI (n:Nd):(qR n).Nodup:=by
 unfold qR items;split
 ·rename_i h
  have ha:=qA6 h;have hp:(flat n [] 0).Pairwise (fun x y=>x.path≠y.path):=by
   have:=qDp n [] 0 ha;exact List.pairwise_map.1 this
  have hq:(flat n [] 0).Pairwise (fun x y=>told x.path≠told y.path):=by
   refine List.Pairwise.imp_of_mem (fun {x y} hx hy hne e=>hne (qMn hx hy e ha)) hp
  exact List.pairwise_map.2 (hq.filter _)
 ·simp
theorem nO {f:List (qB×Nat)}{s:qB}(h:s∈f.map (·.1)):∃ n,jV f s=some n∧(s,n)∈f:=by
 unfold jV;obtain⟨p,hp,e⟩:=zb.1 h;have hs:(f.find? fun p=>p.1==s).isSome:=by
  rw[List.find?_isSome];exact⟨p,hp,by simp[e]⟩
 obtain⟨q,hq⟩:=zy.1 hs;have h1:=List.find?_some hq;have h2:=zf hq;simp at h1;exact⟨q.2,by rw[hq];rfl,by rw[← h1];exact h2⟩
theorem kE (a:qB)(m:Nat)(r:List (qB×Nat))(s:qB):jV ((a,m)::r) s=if a=s then some m else jV r s:=by
 unfold jV;rw[List.find?_cons];by_cases e:a=s
 ·simp[e]
 ·have:((a,m).1==s)=false:=by simpa using e
  rw[this,zL1 e]
theorem kA:∀ {f:List (qB×Nat)},(f.map (·.1)).Nodup→∀ {s:qB} {n:Nat},(s,n)∈f→jV f s=some n
 | [],_,s,n,h=>by cases h
 | (a,m)::r,hn,s,n,h=>by
  simp only[zV,List.nodup_cons] at hn;rw[kE]
  rcases zY.1 h with e | h
  ·injection e with e1 e2
   rw[zM1 e1.symm,e2]
  ·have:a≠s:=fun e=>hn.1 (by rw[e];exact ze (f:=(·.1)) h)
   rw[zL1 this];exact kA hn.2 h
mutual
theorem qDO {t t':Tab}{f f':List (qB×Nat)}:∀ (n:Nd) (p:qB) (d:Nat),
  (∀ x∈flat n p d,x.n.kind=kFile→t'.read ((jV f' (told x.path)).getD 0)=t.read ((jV f (told x.path)).getD 0))→vU t' f' n p=vU t f n p
 | .mk k s e ks,p,d,h=>by
  have hl:=qAT (t:=t) (t':=t') (f:=f) (f':=f') ks p (d+1) (fun x hx=>h x (by simp[flat,hx]));unfold vU;by_cases hk:k=kFile
  ·rw[zM1 hk,zM1 hk,h ⟨p,d,.mk k s e ks⟩ (by simp[flat]) hk]
  ·rw[zL1 hk,zL1 hk,hl]
theorem qAT {t t':Tab}{f f':List (qB×Nat)}:∀ (l:List (qB×Nd)) (p:qB) (d:Nat),
  (∀ x∈flatL l p d,x.n.kind=kFile→t'.read ((jV f' (told x.path)).getD 0)=t.read ((jV f (told x.path)).getD 0))→jR t' f' l p=jR t f l p
 | [],_,_,_=>rfl
 | (nm,y)::r,p,d,h=>by
  have a:=qDO (t:=t) (t':=t') (f:=f) (f':=f') y (p++47::nm) d (fun x hx=>h x (by simp[flatL,hx]));have b:=qAT (t:=t) (t':=t') (f:=f) (f':=f') r p d (fun x hx=>h x (by simp[flatL,hx]));unfold jR;rw[a,b]
end
mutual
theorem qER {t:Tab}{f:List (qB×Nat)}:∀ (n:Nd) (p:qB) (d:Nat),(∀ x∈flat n p d,ownErr x.n=0) →
  (∀ x∈flat n p d,x.n.kind=kFile→t.read ((jV f (told x.path)).getD 0)=.ok x.n.data)→vU t f (jA n) p=.ok n
 | .mk k s e ks,p,d,h0,h=>by
  have hl:=qBt (t:=t) (f:=f) ks p (d+1) (fun x hx=>h0 x (by simp[flat,hx])) (fun x hx=>h x (by simp[flat,hx]));unfold jA vU;by_cases hk:k=kFile
  ·have e1:=h ⟨p,d,.mk k s e ks⟩ (by simp[flat]) hk;have e2:ks=[]:=(qCQ (h0 ⟨p,d,.mk k s e ks⟩ (by simp[flat])) hk).1;rw[zM1 hk,e1];simp only[Nd.data,e2,jO]
  ·rw[zL1 hk,hl,zL1 hk]
theorem qBt {t:Tab}{f:List (qB×Nat)}:∀ (l:List (qB×Nd)) (p:qB) (d:Nat),(∀ x∈flatL l p d,ownErr x.n=0) →
  (∀ x∈flatL l p d,x.n.kind=kFile→t.read ((jV f (told x.path)).getD 0)=.ok x.n.data)→jR t f (jO l) p=.ok l
 | [],_,_,_,_=>rfl
 | (nm,y)::r,p,d,h0,h=>by
  have a:=qER (t:=t) (f:=f) y (p++47::nm) d (fun x hx=>h0 x (by simp[flatL,hx])) (fun x hx=>h x (by simp[flatL,hx]));have b:=qBt (t:=t) (f:=f) r p d (fun x hx=>h0 x (by simp[flatL,hx])) (fun x hx=>h x (by simp[flatL,hx]));unfold jO jR;rw[a,b]
end
theorem dI {d:Dirs}(hd:vC d){e:Ent}(he:e∈d.l){x:It}(hx:x∈flat e.n [] 0)(hk:x.n.kind=kFile) :
  ∃ n,jV e.f (told x.path)=some n∧n∈e.f.map (·.2)∧(d.t.at_ n).isSome:=by
 have hm:told x.path∈e.f.map (·.1):=by
  rw[hd.files e he];unfold qR items;rw[zM1 (hd.well e he)];exact ze (f:=fun x:It=>told x.path) (zZ.2 ⟨hx,by simpa using hk⟩)
 obtain⟨n,h1,h2⟩:=nO hm;have h3:n∈e.f.map (·.2):=ze (f:=(·.2)) h2;exact⟨n,h1,h3,hd.there n (za.2 ⟨e,he,h3⟩)⟩
theorem vX {l:List Ent}{k:Nat}{e:Ent}(h:qN l k=some e):e∈l∧e.k=k:=by
 unfold qN at h;exact⟨zf h,by simpa using List.find?_some h⟩
theorem jI:∀ {l:List Ent},l.Pairwise (fun a b=>a.k<b.k)→∀ {e:Ent},e∈l→qN l e.k=some e
 | [],_,e,h=>by cases h
 | x::r,hp,e,h=>by
  obtain⟨p1,p2⟩:=zi.1 hp;unfold qN;rw[List.find?_cons]
  rcases zY.1 h with rfl | h
  ·simp
  ·have:(x.k==e.k)=false:=by have:=p1 e h;simp;omega
   rw[this];exact jI p2 h
theorem get_congr {d d':Dirs}{k:Nat}{e e':Ent}(h1:qN d.l k=some e)(h2:qN d'.l k=some e')(hn:e'.n=e.n)
  (h:∀ x∈flat e.n [] 0,x.n.kind=kFile→d'.t.read ((jV e'.f (told x.path)).getD 0)=d.t.read ((jV e.f (told x.path)).getD 0)):d'.get k=d.get k:=by
 unfold Dirs.get;rw[h1,h2];simp only[hn];exact qDO e.n [] 0 h
theorem qCC (a b:List Ent):nums (a++b)=nums a++nums b:=by simp[nums]
theorem qHR (e:Ent):nums [e]=e.f.map (·.2):=by simp[nums]
theorem qED {d d':Dirs}{n:Nd}{k:Nat}(h:d.put n=.ok (k,d')):treeErr n=0∧wX n≤d.t.free.length∧k=d.next ∧
  ∃ f t,makeAll d.t (qE n)=.ok (f,t)∧d'={ t:=t,l:=d.l++[⟨d.next,jA n,f⟩],next:=d.next+1 }:=by
 unfold Dirs.put at h;split at h
 ·cases h
 ·rename_i h1
  split at h
  ·cases h
  ·rename_i h2
   split at h
   ·cases h
   ·rename_i f t hm
    injection h with h
    injection h with e1 e2
    exact⟨by omega,by omega,e1.symm,f,t,hm,e2.symm⟩
theorem qOC {d d':Dirs}{n:Nd}{k:Nat}(hd:vC d)(h:d.put n=.ok (k,d')) :
  vC d'∧d'.get k=.ok n∧(∀ j,j<d.next→d'.get j=d.get j):=by
 obtain⟨h0,_,rfl,f,t,hm,rfl⟩:=qED h;obtain⟨m1,m2,m3,m4,m5,m6,m7,m8⟩:=qBR _ _ _ _ hd.tab hm;have hall:=qA6 h0;have hfiles:f.map (·.1)=qR n:=by rw[m2];rfl
 have hne:∀ j,j<d.next→qN (d.l++[⟨d.next,jA n,f⟩]) j=qN d.l j:=by
  intro j hj;unfold qN;rw[List.find?_append];have:(List.find? (fun e:Ent=>e.k==j) [⟨d.next,jA n,f⟩])=none:=by
   rw[List.find?_eq_none];intro e he;simp at he;subst he;simp;omega
  rw[this]
  cases List.find? (fun e:Ent=>e.k==j) d.l<;>rfl
 have hlt:∀ e∈d.l,e.k≠d.next:=fun e he=>Nat.ne_of_lt (hd.next e he)
 have hnew:qN (d.l++[⟨d.next,jA n,f⟩]) d.next=some ⟨d.next,jA n,f⟩:=by
  unfold qN;rw[List.find?_append];have:(List.find? (fun e:Ent=>e.k==d.next) d.l)=none:=by
   rw[List.find?_eq_none];intro e he;simpa using hlt e he
  rw[this];simp
 have hold:∀ m∈nums d.l,m∉f.map (·.2):=by
  intro m hm2 hm3;have:=hd.there m hm2;rw[m4 m hm3] at this
  cases this
 refine⟨?_,?_,?_⟩
 ·constructor
  ·exact m1
  ·show (d.l++[_]).Pairwise _;rw[List.pairwise_append];refine⟨hd.keys,by simp,fun a ha b hb=>?_⟩;simp at hb;subst hb;exact hd.next a ha
  ·intro e he
   rcases zX.1 he with he | he
   ·have:=hd.next e he;show _<d.next+1;omega
   ·simp at he;subst he;show d.next<d.next+1;omega
  ·intro e he
   rcases zX.1 he with he | he
   ·exact hd.well e he
   ·simp at he;subst he;exact qB2 h0
  ·intro e he
   rcases zX.1 he with he | he
   ·exact hd.bare e he
   ·simp at he;subst he;exact qES n
  ·intro e he
   rcases zX.1 he with he | he
   ·exact hd.files e he
   ·simp at he;subst he;show f.map (·.1)=qR (jA n);rw[qFD h0];exact hfiles
  ·intro m x hx;show x.links=(nums (d.l++[_])).count m;rw[qCC,qHR,List.count_append];by_cases hm2:m∈f.map (·.2)
   ·obtain⟨y,hy,hl⟩:=m6 m hm2;have hx':t.at_ m=some x:=hx;rw[hy] at hx';injection hx' with e
    subst e;have h1:(nums d.l).count m=0:=List.count_eq_zero.2 fun h2=>hold m h2 hm2
    have h2:(f.map (·.2)).count m=1:=by
     have:=List.nodup_iff_count.1 m3 m;have:=List.count_pos_iff.2 hm2;omega
    rw[hl,h1,zv];exact h2.symm
   ·have h1:=(m5 m hm2).1;have hx':t.at_ m=some x:=hx;rw[h1] at hx';rw[hd.links m x hx',List.count_eq_zero.2 hm2];rfl
  ·intro m hm2;rw[qCC,qHR] at hm2
   rcases zX.1 hm2 with hm2 | hm2
   ·show (t.at_ m).isSome;rw[(m5 m (hold m hm2)).1];exact hd.there m hm2
   ·obtain⟨y,hy,_⟩:=m6 m hm2;show (t.at_ m).isSome;rw[hy];rfl
 ·unfold Dirs.get;simp only[hnew];refine qER n [] 0 hall fun x hx hk=>?_
  have hxi:x∈qE n:=by
   unfold qE items;rw[zM1 h0];exact zZ.2 ⟨hx,by simpa using hk⟩
  have hlen:f.length=(qE n).length:=by
   have:=congrArg List.length m2;simpa using this
  obtain⟨i,hi,hxe⟩:=List.getElem_of_mem hxi;have hif:i<f.length:=by omega
  have hz:(f[i],x)∈f.zip (qE n):=by
   rw[List.mem_iff_getElem];refine⟨i,by simp;omega,?_⟩;simp[hxe]
  have h1:=(m7 _ hz).1;have hpath:(f[i]).1=told x.path:=by
   have e1:(f.map (·.1))[i]'(by simpa using hif)=((qE n).map fun x=>told x.path)[i]'(by simpa using hi):=by
    simp only[m2]
   simpa[hxe] using e1
  have hnum:jV f (told x.path)=some (f[i]).2:=by
   apply kA (by rw[hfiles];exact xI n);rw[← hpath];exact zO hif
  rw[hnum];exact h1
 ·intro j hj
  cases he:qN d.l j with
  | none=>unfold Dirs.get;simp only[hne j hj,he]
  | some e =>
   have heq:=hne j hj;rw[he] at heq;refine get_congr he heq rfl fun x hx hk=>?_
   obtain⟨hel,_⟩:=vX he;obtain⟨m,hm1,hm2,_⟩:=dI hd hel hx hk;rw[hm1];exact(m5 m (hold m (za.2 ⟨e,hel,hm2⟩))).2
theorem qJw {d:Dirs}{n:Nd}(hd:vC d)(h0:treeErr n=0)(h1:wX n≤d.t.free.length):∃ k d',d.put n=.ok (k,d'):=by
 have hb:∀ x∈qE n,x.n.data.length≤2000:=by
  intro x hx;unfold qE items at hx;rw[zM1 h0] at hx;obtain⟨h2,h3⟩:=zZ.1 hx;exact(qCQ (qA6 h0 x h2) (by simpa using h3)).2
 obtain⟨f,t,hm,_⟩:=qAq (qE n) d.t hd.tab hb h1;unfold Dirs.put;rw[zL1 (by omega),zL1 (by omega),hm];exact⟨_,_,rfl⟩
theorem qAf:∀ (f:List (qB×Nat)) (t:Tab) (o:List Nat),yX t→(∀ n x,t.at_ n=some x→x.links=(f.map (·.2)).count n+o.count n)→(∀ n∈f.map (·.2),(t.at_ n).isSome) →
  yX (qK t f)∧(qK t f).disk=t.disk∧(∀ n x,(qK t f).at_ n=some x→x.links=o.count n∧(t.at_ n).isSome)∧(∀ n,0<o.count n→(t.at_ n).isSome→((qK t f).at_ n).isSome) ∧
   (∀ n,((qK t f).at_ n).isSome→(qK t f).read n=t.read n∧((qK t f).at_ n).map (·.exec)=(t.at_ n).map (·.exec))
 | [],t,o,ht,hl,hth=>by
  simp only[qK];refine⟨ht,by simp,fun n x hx=>⟨by simpa using hl n x hx,by rw[hx];rfl⟩,fun n _ h=>h,fun n _=>by simp⟩
 | (s,m)::r,t,o,ht,hl,hth=>by
  obtain⟨x,hx⟩:=zy.1 (hth m (by simp));obtain⟨t1,h1⟩:=qBJ hx;have ha:=nR hx h1;have hx1:=hl m x hx;simp only[zV,List.count_cons_self] at hx1;have e:qK t ((s,m)::r)=qK t1 r:=by simp only[qK,h1]
  have hd1:t1.disk=t.disk:=by obtain⟨_,_,rfl⟩:=xC h1;rfl
  have hl1:∀ n y,t1.at_ n=some y→y.links=(r.map (·.2)).count n+o.count n:=by
   intro n y hy;rw[ha] at hy;split at hy
   ·rename_i en
    split at hy
    ·cases hy
    ·injection hy with hy
     subst hy;subst en;show x.links-1=_;omega
   ·rename_i en
    have:=hl n y hy;simp only[zV] at this;rw[List.count_cons_of_ne (Ne.symm en)] at this;exact this
  have hth1:∀ n∈r.map (·.2),(t1.at_ n).isSome:=by
   intro n hn;rw[ha];split
   ·rename_i en
    subst en;have:=List.count_pos_iff.2 hn;rw[zL1 (by omega)];rfl
   ·exact hth n (by simp only[zV];exact List.mem_cons_of_mem _ hn)
  obtain⟨i1,i2,i3,i4,i5⟩:=qAf r t1 o (qEK ht h1) hl1 hth1;rw[e];refine⟨i1,by rw[i2,hd1],fun n y hy=>?_,fun n hn hs=>?_,fun n hn=>?_⟩
  ·obtain⟨j1,j2⟩:=i3 n y hy;refine⟨j1,?_⟩;rw[ha] at j2;split at j2
   ·rename_i en;rw[en,hx];rfl
   ·exact j2
  ·refine i4 n hn ?_;rw[ha];split
   ·rename_i en
    subst en;rw[zL1 (by omega)];rfl
   ·exact hs
  ·obtain⟨j1,j2⟩:=i5 n hn;obtain⟨y,hy⟩:=zy.1 hn;have hs1:=(i3 n y hy).2;refine⟨by rw[j1];exact qCM h1 hs1,?_⟩;rw[j2,ha];rw[ha] at hs1;split
   ·rename_i en
    rw[zM1 en] at hs1;subst en;split
    ·rename_i h2;rw[zM1 h2] at hs1;cases hs1
    ·rw[hx];rfl
   ·rfl
theorem qBI {l:List Ent}(hk:l.Pairwise (fun a b=>a.k<b.k)){e:Ent}(he:e∈l)(n:Nat):(nums l).count n=(e.f.map (·.2)).count n+(nums (l.filter fun x=>x.k != e.k)).count n:=by
 induction l with
 | nil=>cases he
 | cons x r ih =>
  obtain⟨p1,p2⟩:=zi.1 hk;have e1:nums (x::r)=x.f.map (·.2)++nums r:=by simp[nums]
  rw[e1,List.count_append]
  rcases zY.1 he with rfl | he
  ·have e2:(e::r).filter (fun x=>x.k != e.k)=r:=by
    rw[zI];have h1:(e.k != e.k)=false:=by simp
    rw[h1];simp only[Bool.false_eq_true,if_false];rw[List.filter_eq_self];intro y hy;have:=p1 y hy;simp;omega
   rw[e2]
  ·have h1:(x.k != e.k)=true:=by have:=p1 e he;simp;omega
   rw[zI,h1];simp only[if_true];have e3:nums (x::r.filter fun y=>y.k != e.k)=x.f.map (·.2)++nums (r.filter fun y=>y.k != e.k):=by simp[nums]
   rw[e3,List.count_append,ih p2 he];omega
theorem qGS {d d':Dirs}{k:Nat}(hd:vC d)(h:d.drop k=.ok d'):vC d'∧(∀ j,j≠k→d'.get j=d.get j)∧d'.l=d.l.filter (fun x=>x.k != k)∧d'.next=d.next:=by
 unfold Dirs.drop at h
 cases he:qN d.l k with
 | none=>rw[he] at h;cases h
 | some e =>
  rw[he] at h;injection h with h
  subst h;obtain⟨hel,rfl⟩:=vX he;obtain⟨u1,u2,u3,u4,u5⟩:=qAf e.f d.t (nums (d.l.filter fun x=>x.k != e.k)) hd.tab
   (fun n x hx=>by rw[hd.links n x hx,qBI hd.keys hel]) (fun n hn=>hd.there n (za.2 ⟨e,hel,hn⟩))
  have hth:∀ n∈nums (d.l.filter fun x=>x.k != e.k),((qK d.t e.f).at_ n).isSome:=by
   intro n hn;refine u4 n (List.count_pos_iff.2 hn) (hd.there n ?_);obtain⟨a,ha,hb⟩:=za.1 hn;exact za.2 ⟨a,(zZ.1 ha).1,hb⟩
  refine⟨⟨u1,hd.keys.filter _,fun a ha=>hd.next a (zZ.1 ha).1,fun a ha=>hd.well a (zZ.1 ha).1,fun a ha=>hd.bare a (zZ.1 ha).1,
   fun a ha=>hd.files a (zZ.1 ha).1,fun n x hx=>(u3 n x hx).1,hth⟩,?_,rfl,rfl⟩
  intro j hj;have hf:qN (d.l.filter fun x=>x.k != e.k) j=qN d.l j:=by
   unfold qN;rw[List.find?_filter];congr 1
   funext x
   by_cases hx:x.k=j
   ·simp[hx,hj]
   ·simp[hx]
  cases hj2:qN d.l j with
  | none=>unfold Dirs.get;simp only[hf,hj2]
  | some a =>
   rw[hj2] at hf;refine get_congr hj2 hf rfl fun x hx hk=>?_
   obtain⟨hal,rfl⟩:=vX hj2;obtain⟨m,hm1,hm2,hm3⟩:=dI hd hal hx hk;rw[hm1];exact(u5 m (hth m (za.2 ⟨a,zZ.2 ⟨hal,by simpa using hj⟩,hm2⟩))).1
end Stl
