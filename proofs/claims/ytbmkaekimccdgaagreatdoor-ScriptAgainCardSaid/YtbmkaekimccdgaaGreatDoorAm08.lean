/- Lemmas. -/
import Derived.Test.YtbmkaekimccdgaaGreatDoorAm07
set_option maxHeartbeats 16000000
set_option maxRecDepth 1000000
set_option linter.all false
namespace Stl
theorem qDf (s:qB):qV [] [] s=[]:=by rw[qV];rfl
theorem qC8 (y:qB)(m:Nd)(b:List (qB×Nd))(s:qB):qV [] ((y,m)::b) s=uK s y::qV [] b s:=by rw[qV,qV];rfl
theorem qCw (x:qB)(n:Nd)(a:List (qB×Nd))(s:qB):qV ((x,n)::a) [] s=gZ s x::qV a [] s:=by rw[qV];rfl
theorem qF7 {x y:qB}(n m:Nd)(a b:List (qB×Nd))(s:qB)(h:y<x):qV ((x,n)::a) ((y,m)::b) s=uK s y::qV ((x,n)::a) b s:=by
 rw[qV,qV,List.takeWhile_cons_of_pos (by simpa using h),List.dropWhile_cons_of_pos (by simpa using h)];rfl
theorem qGM {x y:qB}(n m:Nd)(a b:List (qB×Nd))(s:qB)(h:¬ y<x)(h2:x≠y):qV ((x,n)::a) ((y,m)::b) s=gZ s x::qV a ((y,m)::b) s:=by
 rw[qV,List.takeWhile_cons_of_neg (by simpa using h),List.dropWhile_cons_of_neg (by simpa using h)];simp only[List.map_nil,zh,zL1 h2]
theorem qGW {x:qB}(n m:Nd)(a b:List (qB×Nd))(s:qB)(h:¬ x<x):qV ((x,n)::a) ((x,m)::b) s=kC n m (s++47::x)++qV a b s:=by
 rw[qV,List.takeWhile_cons_of_neg (by simpa using h),List.dropWhile_cons_of_neg (by simpa using h)];simp only[List.map_nil,zh,if_true]
theorem qF1 (f:Nat)(n:Nd)(cur:List qB)(k:Nat):qW (f+1) n [] cur k=.ok (gE cur):=rfl
theorem qBY {f:Nat}{n:Nd}{nm:qB}{todo cur:List qB}{k:Nat}(h:nm=[]∨nm=[46]):qW (f+1) n (nm::todo) cur k=qW f n todo cur k:=by
 rw[qW,zM1 h]
theorem qIy {f:Nat}{n:Nd}{todo cur:List qB}{k:Nat}:qW (f+1) n ([46,46]::todo) cur k=qW f n todo cur.dropLast k:=by
 rw[qW,zL1 (by decide),zM1 rfl]
theorem qFV {f:Nat}{n:Nd}{nm:qB}{todo cur:List qB}{k:Nat}(h:¬ (nm=[]∨nm=[46]))(h2:nm≠[46,46])(h3:isName nm=false):qW (f+1) n (nm::todo) cur k=.error 5:=by
 rw[qW,zL1 h,zL1 h2,zM1 h3]
theorem qEZ {f:Nat}{n:Nd}{nm:qB}{todo cur:List qB}{k:Nat}(h:¬ (nm=[]∨nm=[46]))(h2:nm≠[46,46])(h3:isName nm=true)(h4:jJ n (cur++[nm])=none):qW (f+1) n (nm::todo) cur k=.error 6:=by
 rw[qW,zL1 h,zL1 h2,zL1 (by rw[h3];decide),h4]
theorem qFW {f:Nat}{n x:Nd}{nm:qB}{todo cur:List qB}{k:Nat}(h:¬ (nm=[]∨nm=[46]))(h2:nm≠[46,46])(h3:isName nm=true)(h4:jJ n (cur++[nm])=some x)(h5:x.kind≠kLink):qW (f+1) n (nm::todo) cur k=qW f n todo (cur++[nm]) k:=by
 rw[qW,zL1 h,zL1 h2,zL1 (by rw[h3];decide),h4];simp only;rw[zM1 h5]
theorem qFp {f:Nat}{n x:Nd}{nm:qB}{todo cur:List qB}{k:Nat}(h:¬ (nm=[]∨nm=[46]))(h2:nm≠[46,46])(h3:isName nm=true)(h4:jJ n (cur++[nm])=some x)(h5:x.kind=kLink)(h6:16<k+1):qW (f+1) n (nm::todo) cur k=.error 9:=by
 rw[qW,zL1 h,zL1 h2,zL1 (by rw[h3];decide),h4];simp only;rw[zL1 (by simp[h5]),zM1 h6]
theorem qE2 {f:Nat}{n x:Nd}{nm:qB}{todo cur:List qB}{k:Nat}(h:¬ (nm=[]∨nm=[46]))(h2:nm≠[46,46])(h3:isName nm=true)(h4:jJ n (cur++[nm])=some x)(h5:x.kind=kLink)(h6:¬ 16<k+1):qW (f+1) n (nm::todo) cur k=qW f n (qG 47 x.data++todo) (if x.data.head?=some 47 then [] else cur) (k+1):=by
 rw[qW,zL1 h,zL1 h2,zL1 (by rw[h3];decide),h4];simp only;rw[zL1 (by simp[h5]),zL1 h6]
mutual
def kM:Nd→Nat | .mk _ _ _ ks=>vO ks+1
def vO:List (qB×Nd)→Nat | []=>0 | (_,x)::r=>kM x+vO r
end
mutual
theorem qHf:∀ (n:Nd) (p:qB) (deep:Nat),(flat n p deep).length=kM n
 | .mk k d e ks,p,deep=>by rw[flat,zQ,qE8 ks p (deep+1),kM]
theorem qE8:∀ (l:List (qB×Nd)) (p:qB) (deep:Nat),(flatL l p deep).length=vO l
 | [],p,deep=>by simp[flatL,vO]
 | (nm,x)::r,p,deep=>by rw[flatL,zP,qHf x _ _,qE8 r _ _,vO]
end
theorem nI (n:Nd):1≤kM n:=by obtain⟨k,d,e,ks⟩:=n;rw[kM];omega
theorem qB8:∀ a b:List (qB×Nd),vO (a++b)=vO a+vO b
 | [],b=>by simp[vO]
 | (nm,x)::r,b=>by rw[zE,vO,qB8 r b,vO];omega
theorem qCs:∀ a:List (qB×Nd),a.length≤vO a
 | []=>zo _
 | (nm,x)::r=>by have:=qCs r;have:=nI x;rw[vO];simp;omega
mutual
theorem qBE:∀ (a b:Nd) (s:qB),(kC a b s).length≤kM a+kM b
 | .mk k d e ks,b,s=>by
  rw[kC];have h1:=mD ks b.kids s;have h2:vO b.kids+1=kM b:=by obtain⟨k2,d2,e2,ks2⟩:=b;rw[kM];rfl
  rw[kM];split
  ·simp
  ·split
   ·omega
   ·simp only[List.length_singleton];omega
theorem mD:∀ (a b:List (qB×Nd)) (s:qB),(qV a b s).length≤vO a+vO b
 | [],l,s=>by
  rw[qV,zT];have:=qCs l;omega
 | (x,n)::a,l,s=>by
  have hl:vO (l.takeWhile fun q=>decide (q.1<x))+vO (l.dropWhile fun q=>decide (q.1<x))=vO l:=by
   rw[← qB8,List.takeWhile_append_dropWhile]
  have ht:=qCs (l.takeWhile fun q=>decide (q.1<x));have hn:=nI n;rw[qV,zP,zT,vO]
  cases hd:(l.dropWhile fun q=>decide (q.1<x)) with
  | nil =>
   rw[hd] at hl;have h1:=mD a [] s;simp only[vO] at h1 hl;simp only[zQ];omega
  | cons y b =>
   obtain⟨y,m⟩:=y;rw[hd] at hl;rw[vO] at hl;have h1:=mD a b s;have h2:=mD a ((y,m)::b) s;rw[vO] at h2;have h3:=qBE n m (s++47::x);simp only;split
   ·rw[zP];omega
   ·simp only[zQ];omega
end
theorem pY {a b:Nd}(ha:treeErr a=0)(hb:treeErr b=0)(s:qB):kM a≤200∧kM b≤200∧(kC a b s).length≤400:=by
 have h1:=(items_well ha).1;have h2:=(items_well hb).1;rw[qHf] at h1 h2;have:=qBE a b s;exact⟨h1,h2,by omega⟩
theorem qBX (c:UInt8){l a b:qB}(h:cutAt c l=some (a,b)):l=a++c::b:=by
 rcases pG c l with ⟨h1,_,_⟩ | ⟨a',b',h1,_,h3⟩
 ·rw[h1] at h;cases h
 ·rw[h1] at h;injection h with h
  injection h with h4 h5
  rw[h3,h4,h5]
theorem qA9 {x r:qB}(h:vY x=some r):∃ y,x=record r++y:=by
 unfold vY at h
 cases hc:cutAt 58 x with
 | none=>rw[hc] at h;cases h
 | some q =>
  obtain⟨d,rest⟩:=q;rw[hc] at h;simp only at h
  cases hn:qI d 9 with
  | none=>rw[hn] at h;cases h
  | some n =>
   rw[hn] at h;simp only at h;split at h
   ·cases h
   ·rename_i hb
    injection h with h
    have hx:=qBX 58 hc;have h2:=(wV d 9 (by omega) n).1 hn;rw[pA] at h2;have hlen:¬ rest.length<n+2:=fun h=>hb (.inr (.inl h))
    have h10:(rest.drop n).take 2=[10,46]:=Classical.byContradiction fun h=>hb (.inr (.inr h))
    have hr:r.length=n:=by rw[← h,List.length_take];omega
    refine⟨(rest.drop n).drop 2,?_⟩;have e1:rest=rest.take n++((rest.drop n).take 2++(rest.drop n).drop 2):=by rw[List.take_append_drop,List.take_append_drop]
    rw[h,h10] at e1;rw[hx,← h2.2.2];unfold record;rw[hr]
    conv=>lhs;rw[e1]
    simp
theorem qBD (r:qB):3≤(record r).length:=by
 unfold record;simp only[zP,zQ,List.length_nil];omega
theorem qBl:∀ (f g:Nat) (x:qB),x.length<f→x.length<g→qU f x=qU g x
 | f+1,g+1,x,hf,hg=>by
  unfold qU
  cases h:vY x with
  | none=>rfl
  | some r =>
   obtain⟨y,hy⟩:=qA9 h;have hl:x.length=(record r).length+y.length:=by rw[hy,zP]
   have h3:=qBD r;simp only;rw[qBl f g (x.drop (record r).length) (by rw[List.length_drop];omega) (by rw[List.length_drop];omega)]
theorem qEv {f:Nat}{x:qB}(h:vY x=none):qU f x=([],0):=by
 cases f with
 | zero=>rfl
 | succ f=>unfold qU;rw[h]
structure ReadUp (b:qB)(at_:Nat)(out:List qB):Prop where
 le:at_≤b.length
 eq:qU (b.length+1) b=(out++(qU (b.length+1) (b.drop at_)).1,at_+(qU (b.length+1) (b.drop at_)).2)
theorem qFO (b:qB):ReadUp b 0 []:=⟨zw _,by simp⟩
theorem ReadUp.more {b:qB}{at_:Nat}{out:List qB}(h:ReadUp b at_ out){r:qB}(hr:vY (b.drop at_)=some r):ReadUp b (at_+(record r).length) (out++[r])∧at_+(record r).length≤b.length:=by
 obtain⟨y,hy⟩:=qA9 hr;have hl:(b.drop at_).length=(record r).length+y.length:=by rw[hy,zP]
 rw[List.length_drop] at hl;have hle:=h.le;refine⟨⟨by omega,?_⟩,by omega⟩;rw[h.eq];have e:qU (b.length+1) (b.drop at_)=(r::(qU b.length ((b.drop at_).drop (record r).length)).1,(record r).length+(qU b.length ((b.drop at_).drop (record r).length)).2):=by
  conv=>lhs;unfold qU
  rw[hr]
 have h3:=qBD r;rw[e,List.drop_drop,qBl b.length (b.length+1) (b.drop (at_+(record r).length)) (by rw[List.length_drop];omega) (by rw[List.length_drop];omega)];simp[Nat.add_assoc]
theorem ReadUp.done {b:qB}{at_:Nat}{out:List qB}(h:ReadUp b at_ out)(hr:vY (b.drop at_)=none):qU (b.length+1) b=(out,at_):=by
 rw[h.eq,qEv hr];simp
def RunSto (i:Nat)(s:Sto):Prop:=RunOk i s ⟨[],false,none⟩
theorem qFm {n:Nat}(h:n≤512):RunSto 0 (Sto.new n):=qJH h
theorem RunOk.alone {i:Nat}{s:Sto}{t:Tape}(h:RunOk i s t):RunSto i s :=
 ⟨h.sto,h.disk,h.inos,h.next,h.ents,rfl,rfl,zw _⟩
theorem RunSto.step {i:Nat}{s s1:Sto}{line a:qB}(h:RunSto i s)(hi:i≤300)(hl:line.length≤250)(hc:s.change line=some (.ok (a,s1))):RunSto (i+1) s1:=by
 have h1:=qLG h hi hl;have e:(yH s ⟨[],false,none⟩ line).2.1=s1:=by
  unfold yH;rw[hc];simp only;rw[qBM hl rfl rfl (by decide),zM1 rfl]
 rw[e] at h1;exact h1.alone
theorem xP:∀ (f:Nat) (n:Nd) (todo cur:List qB) (k:Nat),Few (qW f n todo cur k)
 | 0,_,_,_,_=>qF (by decide)
 | _+1,_,[],_,_=>jH _
 | f+1,n,nm::todo,cur,k=>by
  unfold qW;split
  ·exact xP f _ _ _ _
  ·split
   ·exact xP f _ _ _ _
   ·split
    ·exact qF (by decide)
    ·split
     ·exact qF (by decide)
     ·split
      ·exact xP f _ _ _ _
      ·split
       ·exact qF (by decide)
       ·exact xP f _ _ _ _
theorem qF0 (n:Nd)(s:qB):Few (xY n s):=by
 unfold xY;split
 ·exact qF (kU n)
 ·split
  ·exact qF (by decide)
  ·exact xP _ _ _ _ _
theorem qDY (a b:Nd):Few (jW a b):=by
 unfold jW;split
 ·exact qF (kU a)
 ·split
  ·exact qF (kU b)
  ·exact jH _
theorem qMo (s:Sto)(h:qB)(r:List qB):Few (uX s h r):=by
 unfold uX;split
 ·rename_i e he
  exact qF (qD0 _ _ e he)
 ·split
  ·exact jH _
  ·split
   ·exact jH _
   ·split
    ·exact qF0 _ _
    ·split
     ·rename_i e he
      exact qF (qD0 _ _ e he)
     ·exact uQ _ (qDY _ _)
theorem qIK {i:Nat}{s:Sto}{t:Tape}{rs:List qB}{x:qB}(h:ScrOk 64 i s t rs x)(line:qB):Few (qL s t line).1:=by
 unfold qL;split
 ·exact qDW _ _ _
 ·split
  ·exact qDW _ _ _
  ·split
   ·unfold mW;split
    ·split
     ·exact qF (by decide)
     ·split
      ·exact qF (by decide)
      ·exact jH _
    ·split
     ·obtain⟨_,h2,_⟩:=qCn h;rw[h2];exact jH _
     ·exact qMo _ _ _
   ·exact qF (by decide)
def dU:Sto:=Sto.new 64
def mM:Tape:=⟨[],false,none⟩
theorem qAu:∀ (l m:List qB) (s:Sto) (t:Tape),vW s t (l++m)=vW (vW s t l).1 (vW s t l).2 m
 | [],_,_,_=>rfl
 | x::r,m,s,t=>by
  show vW _ _ (r++m)=_;rw[qAu r m];rfl
theorem qCA (T:Nat→qB){l:List qB}{j:Nat}{x:qB}(hx:l[j]?=some x){s:Sto}{t:Tape}(h:vW dU mM (l.take j)=(s,t)) :
  qY T dU mM (l.take (j+1))=qY T dU mM (l.take j)++[nL T (qL s t x).1]∧vW dU mM (l.take (j+1))=((qL s t x).2.1,(qL s t x).2.2):=by
 obtain⟨hj,rfl⟩:=zM.1 hx;rw[zn hj,qAb,qAu,h];exact⟨rfl,rfl⟩
theorem qMk (d:UInt8):∀ (s:qB),qG d s≠[]
 | s=>by
  rw[xE]
  cases cutAt d s with
  | none=>exact fun h=>by cases h
  | some q=>exact fun h=>by cases h
def RunAt (l:List qB)(j:Nat)(s:Sto)(t:Tape):Prop:=vW dU mM (l.take j)=(s,t)∧∃ rs x,ScrOk 64 j s t rs x
theorem qNu (l:List qB):RunAt l 0 dU mM:=⟨rfl,[],[],qJ5 (by decide)⟩
theorem RunAt.more {l:List qB}{j:Nat}{s:Sto}{t:Tape}(h:RunAt l j s t){x:qB}(hx:l[j]?=some x)(hi:j≤300)(hl:x.length≤250):RunAt l (j+1) (qL s t x).2.1 (qL s t x).2.2:=by
 obtain⟨rs,y,ho⟩:=h.2;exact⟨(qCA (fun _=>[]) hx h.1).2,qMq ho hi hl⟩
theorem RunAt.few {l:List qB}{j:Nat}{s:Sto}{t:Tape}(h:RunAt l j s t)(line:qB):Few (qL s t line).1:=by
 obtain⟨rs,x,ho⟩:=h.2;exact qIK ho line
def uF:List qB:=[[97,100,100,32,97,32,100,49,58,49,58,120,102,50,58,104,105],[102,105,108,101,115,32,97],[115,105,122,101,32,97],[114,111,111,116,32,97],[103,99],[108,105,115,116]]
def uL:List qB:=[[111,107],[47,120],[50,32,50],[111,107],[48],[97]]
def qHT:Sto→Tape→List qB→List qB→Bool
 | _,_,[],[]=>true
 | s,t,l::r,a::q=>qOh (qL s t l).1 a&&qHT (qL s t l).2.1 (qL s t l).2.2 r q
 | _,_,_,_=>false
theorem qDL (T:Nat→qB):∀ (l a:List qB) (s:Sto) (t:Tape),qHT s t l a=true→qY T s t l=a
 | [],[],_,_,_=>rfl
 | [],_::_,_,_,h=>by cases h
 | _::_,[],_,_,h=>by cases h
 | x::r,a::q,s,t,h=>by
  unfold qHT at h;rw[zC] at h;rw[qY,qL9 h.1,qDL T r q _ _ h.2];rfl
theorem qKs:qHT (Sto.new 64) ⟨[],false,none⟩ uF uL=true:=by decide +kernel
theorem qJ0 (T:Nat→qB):qY T (Sto.new 64) ⟨[],false,none⟩ uF=uL:=qDL T _ _ _ _ qKs
end Stl
