/- Lemmas. -/
import Derived.Test.YtbmkaekimccdgaaGreatDoorBm07
set_option maxHeartbeats 16000000
set_option maxRecDepth 1000000
set_option linter.all false
namespace Stl
def mQ (n:Nd):Nat:=((qE n).map fun x=>x.n.data.length).sum
def xN (n:Nd):Nat:=(items n).length
def gZ (s nm:qB):qB:=[100,114,111,112,58]++(s++47::nm)
def uK (s nm:qB):qB:=[97,100,100,58]++(s++47::nm)
def uW (s:qB):qB:=[101,100,105,116,58]++told s
mutual
def kC:Nd→Nd→qB→List qB
 | .mk k d e ks,b,s=>if wH (.mk k d e ks) b then [] else if k=kDir∧b.kind=kDir then qV ks b.kids s else [uW s]
def qV:List (qB×Nd)→List (qB×Nd)→qB→List qB
 | [],l,s=>l.map fun q=>uK s q.1
 | (x,n)::a,l,s =>
  ((l.takeWhile fun q=>decide (q.1<x)).map fun q=>uK s q.1) ++
   match l.dropWhile fun q=>decide (q.1<x) with
   | []=>gZ s x::qV a [] s
   | (y,m)::b=>if x=y then kC n m (s++47::x)++qV a b s else gZ s x::qV a ((y,m)::b) s
end
def jW (a b:Nd):Except Nat (List qB) :=
 if treeErr a≠0 then .error (treeErr a) else if treeErr b≠0 then .error (treeErr b) else .ok (kC a b [])
def gE (l:List qB):qB:=47::(match l with | []=>[] | x::r=>x++r.flatMap fun y=>47::y)
def qW:Nat→Nd→List qB→List qB→Nat→Except Nat qB
 | 0,_,_,_,_=>.error 9
 | _+1,_,[],cur,_=>.ok (gE cur)
 | f+1,n,nm::todo,cur,links =>
  if nm=[]∨nm=[46] then qW f n todo cur links
  else if nm=[46,46] then qW f n todo cur.dropLast links
  else if isName nm=false then .error 5
  else match jJ n (cur++[nm]) with
   | none=>.error 6
   | some x =>
    if x.kind≠kLink then qW f n todo (cur++[nm]) links
    else if 16<links+1 then .error 9
    else qW f n (qG 47 x.data++todo) (if x.data.head?=some 47 then [] else cur) (links+1)
def xY (n:Nd)(s:qB):Except Nat qB :=
 if treeErr n≠0 then .error (treeErr n)
 else match qQ s with
  | none=>.error 5
  | some l=>qW 2000 n l [] 0
def oN:qB:=[99,117,116]
def pU:qB:=[97,103,97,105,110]
def oE:qB:=[100,105,102,102]
def mZ:qB:=[102,111,108,108,111,119]
def uM:qB:=[102,105,108,101,115]
def dV:qB:=[115,105,122,101]
def uX (s:Sto)(h:qB)(r:List qB):Except Nat qB :=
 match s.tree (r.headD []) with
 | .error e=>.error e
 | .ok n =>
  if h=uM then .ok (qT (qR n))
  else if h=dV then .ok (dec (mQ n)++32::dec (xN n))
  else if h=mZ then xY n (r.getD 1 [])
  else match s.tree (r.getD 1 []) with
   | .error e=>.error e
   | .ok m=>(jW n m).map qT
def mG (h:qB):Option Nat :=
 if h=oN then some 1 else if h=pU then some 0 else if h=oE then some 2 else if h=mZ then some 2 else if h=uM then some 1 else if h=dV then some 1 else none
def mW (s:Sto)(t:Tape)(h:qB)(r:List qB):Except Nat qB×Sto×Tape :=
 if h=oN then
  match qI (r.headD []) 6 with
  | none=>(.error 1,s,t)
  | some k=>if t.off then (.error 13,s,t) else (.ok bOk,s,{ t with cut:=some k })
 else if h=pU then
  match replay 0 (Sto.new 64) t.recover.1 with
  | .ok s1=>(.ok bOk,s1,t.recover.2)
  | .error e=>(.error e.2,s,t.recover.2)
 else (uX s h r,s,t)
def qL (s:Sto)(t:Tape)(line:qB):Except Nat qB×Sto×Tape :=
 match qG 32 line with
 | []=>yH s t line
 | h::r =>
  match mG h with
  | none=>yH s t line
  | some k=>if r.length=k then mW s t h r else (.error 1,s,t)
def nL (T:Nat→qB)(r:Except Nat qB):qB:=match r with | .ok a=>a | .error e=>T e
def qY (T:Nat→qB):Sto→Tape→List qB→List qB
 | _,_,[]=>[]
 | s,t,l::r=>nL T (qL s t l).1::qY T (qL s t l).2.1 (qL s t l).2.2 r
def vW:Sto→Tape→List qB→Sto×Tape
 | s,t,[]=>(s,t)
 | s,t,l::r=>vW (qL s t l).2.1 (qL s t l).2.2 r
theorem yB (T:Nat→qB):∀ (l:List qB) (s:Sto) (t:Tape),(qY T s t l).length=l.length
 | [],_,_=>rfl
 | x::r,s,t=>by simp[qY,yB T r]
theorem qAb (T:Nat→qB):∀ (l m:List qB) (s:Sto) (t:Tape),qY T s t (l++m)=qY T s t l++qY T (vW s t l).1 (vW s t l).2 m
 | [],_,_,_=>rfl
 | x::r,m,s,t=>by simp[qY,vW,qAb T r]
theorem qDi (T:Nat→qB)(l:List qB)(s:Sto)(t:Tape)(n:Nat):qY T s t (l.take n)=(qY T s t l).take n:=by
 by_cases h:n≤l.length
 ·have e:=qAb T (l.take n) (l.drop n) s t;rw[List.take_append_drop] at e;rw[e,List.take_left' (by rw[yB,List.length_take];omega)]
 ·rw[zm (by omega),zm (by rw[yB];omega)]
structure SizeOk (i:Nat)(s:Sto):Prop where
 sto:mP s
 disk:s.d.t.disk.length≤512
 inos:s.d.t.l.length≤200*i
 next:s.d.next≤i
 ents:s.d.l.length≤i
theorem SizeOk.up {i:Nat}{s:Sto}(h:SizeOk i s):SizeOk (i+1) s:=⟨h.sto,h.disk,by have:=h.inos;omega,by have:=h.next;omega,by have:=h.ents;omega⟩
theorem SizeOk.le {i j:Nat}{s:Sto}(h:SizeOk i s)(hj:i≤j):SizeOk j s:=⟨h.sto,h.disk,by have:=h.inos;have:=Nat.mul_le_mul_left 200 hj;omega,by have:=h.next;omega,by have:=h.ents;omega⟩
theorem SizeOk.change {i:Nat}{s s1:Sto}{line a:qB}(h:SizeOk i s)(hc:s.change line=some (.ok (a,s1))):SizeOk (i+1) s1:=by
 have hz:=qCX hc;exact⟨qE9 h.sto hc,by rw[hz.disk];exact h.disk,by have:=hz.inos;have:=h.inos;omega,by have:=hz.next;have:=h.next;omega,by have:=hz.ents;have:=h.ents;omega⟩
theorem qIp {n:Nat}(h:n≤512):SizeOk 0 (Sto.new n):=⟨qJM n,by show (List.replicate n _).length≤_;rw[List.length_replicate];exact h,zo _,zo _,zo _⟩
structure ScrOk (n i:Nat)(s:Sto)(t:Tape)(rs:List qB)(x:qB):Prop where
 size:SizeOk i s
 keep:Keep n i s rs
 b:t.b=pV rs++x
 none:vY x=none
 on:t.off=false→x=[]
 cut:∀ k,t.cut=some k→k≤9223372036854775807
 len:t.b.length≤300*i
theorem qJ5 {n:Nat}(h:n≤512):ScrOk n 0 (Sto.new n) ⟨[],false,none⟩ [] []:=⟨qIp h,qIx n,rfl,rfl,fun _=>rfl,(fun _ h=>by cases h),zo _⟩
theorem ScrOk.up {n i:Nat}{s:Sto}{t:Tape}{rs:List qB}{x:qB}(h:ScrOk n i s t rs x):ScrOk n (i+1) s t rs x :=
 ⟨h.size.up,h.keep.up,h.b,h.none,h.on,h.cut,by have:=h.len;omega⟩
theorem qNg {n i:Nat}{s:Sto}{t:Tape}{rs:List qB}{x:qB}(h:ScrOk n i s t rs x)(hi:i≤300){line:qB}(hl:line.length≤250) :
  ∃ rs' x',ScrOk n (i+1) (yH s t line).2.1 (yH s t line).2.2 rs' x':=by
 unfold yH
 cases hc:s.change line with
 | none=>exact⟨rs,x,h.up⟩
 | some q =>
  cases q with
  | error e=>exact⟨rs,x,h.up⟩
  | ok q =>
   obtain⟨a,s1⟩:=q;simp only;have hlen:=h.len;have hrl:=qAx hl;have e0:t.append line=if t.off=true then (13,t) else match t.cut with
     | Option.none=>(0,{ t with b:=t.b++record line })
     | some n=>if n<(record line).length then (13,{ t with b:=t.b++(record line).take n,off:=true }) else (0,{ t with b:=t.b++record line,cut:=some (n-(record line).length) }):=by
    unfold Tape.append;rw[zL1 (by omega),zL1 (by omega)];split
    ·rfl
    ·cases t.cut<;>rfl
   rw[e0];by_cases hof:t.off=true
   ·rw[zM1 hof];simp only;rw[zL1 (by decide)];exact⟨rs,x,h.up⟩
   ·rw[zL1 hof];have hx:=h.on (by simpa using hof);have hbb:=h.b;rw[hx,List.append_nil] at hbb;have hoff:t.off=false:=by simpa using hof
    have key:∀ q:Option Nat,(∀ k,q=some k→k≤9223372036854775807)→ScrOk n (i+1) s1 { t with b:=t.b++record line,cut:=q } (rs++[line]) []:=fun q hq =>
     ⟨h.size.change hc,h.keep.line hl hc,by show t.b++record line=_;rw[hbb,qJK,List.append_nil],rfl,fun _=>rfl,hq,by show (t.b++record line).length≤_;rw[zP];omega⟩
    cases hcu:t.cut with
    | none =>
     simp only;rw[zM1 trivial];have:=key Option.none (fun _ h=>by cases h);refine⟨rs++[line],[],?_⟩;have e:({ t with b:=t.b++record line,cut:=Option.none }:Tape)={ t with b:=t.b++record line }:=by rw[← hcu]
     rw[e] at this;rw[← hcu];exact this
    | some m =>
     simp only;by_cases hm:m<(record line).length
     ·rw[zM1 hm];simp only;rw[zL1 (by decide)];refine⟨rs,(record line).take m,⟨h.size.up,h.keep.up,by show t.b++_=_;rw[hbb],qGC hl hm,(fun h=>by cases h),fun k hk=>?_,?_⟩⟩
      ·exact h.cut k (hcu.trans hk)
      ·show (t.b++(record line).take m).length≤_;rw[zP,List.length_take];omega
     ·rw[zL1 hm];simp only;rw[zM1 trivial];exact⟨rs++[line],[],key _ (fun k hk=>by injection hk with hk;have:=h.cut m hcu;omega)⟩
theorem qCn {n i:Nat}{s:Sto}{t:Tape}{rs:List qB}{x:qB}(h:ScrOk n i s t rs x):t.recover=(rs,⟨pV rs,false,Option.none⟩)∧replay 0 (Sto.new n) t.recover.1=.ok s∧ScrOk n (i+1) s ⟨pV rs,false,Option.none⟩ rs []:=by
 have hr:=qE1 h.b h.keep.short h.none;refine⟨hr,by rw[hr];exact qBe _ _ h.keep.again,⟨h.size.up,h.keep.up,(List.append_nil _).symm,rfl,fun _=>rfl,(fun _ h=>by cases h),?_⟩⟩;have:=h.len;rw[h.b,zP] at this;show (pV rs).length≤_;omega
theorem qMq {i:Nat}{s:Sto}{t:Tape}{rs:List qB}{x:qB}(h:ScrOk 64 i s t rs x)(hi:i≤300){line:qB}(hl:line.length≤250) :
  ∃ rs' x',ScrOk 64 (i+1) (qL s t line).2.1 (qL s t line).2.2 rs' x':=by
 unfold qL;split
 ·exact qNg h hi hl
 ·split
  ·exact qNg h hi hl
  ·split
   ·unfold mW;split
    ·split
     ·exact⟨rs,x,h.up⟩
     ·rename_i k hk
      split
      ·exact⟨rs,x,h.up⟩
      ·have h6:=(qA2 (by omega) hk).1;exact⟨rs,x,⟨h.size.up,h.keep.up,h.b,h.none,h.on,(fun k' hk'=>by injection hk' with hk';omega),by have:=h.len;show t.b.length≤_;omega⟩⟩
    ·split
     ·obtain⟨h1,h2,h3⟩:=qCn h;rw[h2,h1];exact⟨rs,[],h3⟩
     ·exact⟨rs,x,h.up⟩
   ·exact⟨rs,x,h.up⟩
structure mR (i:Nat)(s:Sto)(t:Tape)(rs:List qB):Prop where
 ok:ScrOk 64 i s t rs []
 tape:t=⟨pV rs,false,Option.none⟩
theorem qPn {i:Nat}{s:Sto}{t:Tape}{rs:List qB}(h:mR i s t rs)(hi:i≤300){line:qB}(hl:line.length≤250)(hn:(line.takeWhile fun c=>c != 32)≠oN) :
  ∃ rs',mR (i+1) (qL s t line).2.1 (qL s t line).2.2 rs':=by
 have hdo:∃ rs',mR (i+1) (yH s t line).2.1 (yH s t line).2.2 rs':=by
  have ht:=h.tape;subst ht;have hlen:=h.ok.len;have hr:RunOk i s ⟨pV rs,false,Option.none⟩:=⟨h.ok.size.sto,h.ok.size.disk,h.ok.size.inos,h.ok.size.next,h.ok.size.ents,rfl,rfl,hlen⟩;obtain⟨rs',h1,h2⟩:=qPk h.ok.keep hr hi rfl hl;have hs:=qLG hr hi hl;exact⟨rs',⟨⟨⟨hs.sto,hs.disk,hs.inos,hs.next,hs.ents⟩,h1,by rw[h2,List.append_nil],rfl,fun _=>rfl,(fun k hk=>by rw[h2] at hk;cases hk),hs.len⟩,h2⟩⟩
 unfold qL;split
 ·exact hdo
 ·rename_i hd r hsp
  have hh:hd≠oN:=by
   intro e;apply hn;rw[xE] at hsp
   cases hc:cutAt 32 line with
   | none =>
    rw[hc] at hsp;injection hsp with h1 _
    rw[qO6 32 line hc,h1,e]
   | some q =>
    obtain⟨a,b⟩:=q;rw[hc] at hsp;injection hsp with h1 _
    rw[← qO5 32 line a b hc];exact h1.trans e
  split
  ·exact hdo
  ·split
   ·unfold mW;rw[zL1 hh];split
    ·obtain⟨h1,h2,h3⟩:=qCn h.ok;rw[h2,h1];exact⟨rs,h3,rfl⟩
    ·exact⟨rs,h.ok.up,h.tape⟩
   ·exact⟨rs,h.ok.up,h.tape⟩
theorem qO9:∀ (l:List qB) {i:Nat} {s:Sto} {t:Tape} {rs:List qB},mR i s t rs→i+l.length≤300→(∀ x∈l,x.length≤250)→(∀ x∈l,(x.takeWhile fun c=>c != 32)≠oN) →
  ∃ rs',mR (i+l.length) (vW s t l).1 (vW s t l).2 rs'
 | [],i,s,t,rs,h,_,_,_=>⟨rs,h⟩
 | x::r,i,s,t,rs,h,hi,hl,hn=>by
  obtain⟨rs1,h1⟩:=qPn h (by simp at hi;omega) (hl x (by simp)) (hn x (by simp));obtain⟨rs2,h2⟩:=qO9 r h1 (by simp at hi;omega) (fun y hy=>hl y (by simp[hy])) (fun y hy=>hn y (by simp[hy]));refine⟨rs2,?_⟩;show mR (i+(r.length+1)) _ _ _;rw[show i+(r.length+1)=i+1+r.length by omega];exact h2
theorem qPd {i:Nat}{s:Sto}{t:Tape}{rs:List qB}(h:mR i s t rs):qL s t pU=(.ok bOk,s,t):=by
 obtain⟨h1,h2,h3⟩:=qCn h.ok;have e:qG 32 pU=[pU]:=by decide
 unfold qL;rw[e];have e2:mG pU=some 0:=by decide
 simp only[e2];rw[zM1 (show ([]:List qB).length=0 from rfl)];unfold mW;rw[zL1 (by decide),zM1 rfl,h2,h1];simp only;rw[h.tape]
theorem qPc (T:Nat→qB)(l:List qB)(n:Nat)(hl:l.length≤200)(h1:∀ x∈l,x.length≤250)(h2:∀ x∈l,(x.takeWhile fun c=>c != 32)≠oN) :
  qY T (Sto.new 64) ⟨[],false,Option.none⟩ (l.take n++pU::l.drop n)=(qY T (Sto.new 64) ⟨[],false,Option.none⟩ l).take n++bOk::(qY T (Sto.new 64) ⟨[],false,Option.none⟩ l).drop n:=by
 have h0:mR 0 (Sto.new 64) ⟨[],false,Option.none⟩ []:=⟨qJ5 (by decide),rfl⟩;obtain⟨rs,h3⟩:=qO9 (l.take n) h0 (by rw[List.length_take];omega) (fun x hx=>h1 x (List.mem_of_mem_take hx)) (fun x hx=>h2 x (List.mem_of_mem_take hx));have e:qY T (Sto.new 64) ⟨[],false,Option.none⟩ l=qY T (Sto.new 64) ⟨[],false,Option.none⟩ (l.take n)++qY T (vW (Sto.new 64) ⟨[],false,Option.none⟩ (l.take n)).1 (vW (Sto.new 64) ⟨[],false,Option.none⟩ (l.take n)).2 (l.drop n):=by
  rw[← qAb,List.take_append_drop]
 rw[qAb];generalize hE:vW (Sto.new 64) ⟨[],false,Option.none⟩ (l.take n)=E at *;have ha:=qPd h3;show _++(nL T (qL E.1 E.2 pU).1::qY T (qL E.1 E.2 pU).2.1 (qL E.1 E.2 pU).2.2 (l.drop n))=_;rw[ha];show _++(bOk::qY T E.1 E.2 (l.drop n))=_;rw[← qDi];congr 2;rw[e];by_cases hn:n≤l.length
 ·rw[List.drop_left' (by rw[yB,List.length_take];omega)]
 ·rw[zG (by omega)];show []=_;rw[zG];simp[qY,yB];omega
theorem qDf (s:qB):qV [] [] s=[]:=by rw[qV];rfl
theorem qC8 (y:qB)(m:Nd)(b:List (qB×Nd))(s:qB):qV [] ((y,m)::b) s=uK s y::qV [] b s:=by rw[qV,qV];rfl
theorem qCw (x:qB)(n:Nd)(a:List (qB×Nd))(s:qB):qV ((x,n)::a) [] s=gZ s x::qV a [] s:=by rw[qV];rfl
theorem qF7 {x y:qB}(n m:Nd)(a b:List (qB×Nd))(s:qB)(h:y<x):qV ((x,n)::a) ((y,m)::b) s=uK s y::qV ((x,n)::a) b s:=by
 rw[qV,qV,List.takeWhile_cons_of_pos (by simpa using h),List.dropWhile_cons_of_pos (by simpa using h)];rfl
theorem qGM {x y:qB}(n m:Nd)(a b:List (qB×Nd))(s:qB)(h:¬ y<x)(h2:x≠y):qV ((x,n)::a) ((y,m)::b) s=gZ s x::qV a ((y,m)::b) s:=by
 rw[qV,List.takeWhile_cons_of_neg (by simpa using h),List.dropWhile_cons_of_neg (by simpa using h)];simp only[List.map_nil,zh,zL1 h2]
theorem qGW {x:qB}(n m:Nd)(a b:List (qB×Nd))(s:qB)(h:¬ x<x):qV ((x,n)::a) ((x,m)::b) s=kC n m (s++47::x)++qV a b s:=by
 rw[qV,List.takeWhile_cons_of_neg (by simpa using h),List.dropWhile_cons_of_neg (by simpa using h)];simp only[List.map_nil,zh,if_true]
theorem qF1 (f:Nat)(n:Nd)(cur:List qB)(k:Nat):qW (f+1) n [] cur k=.ok (gE cur):=rfl
theorem qBY {f:Nat}{n:Nd}{nm:qB}{todo cur:List qB}{k:Nat}(h:nm=[]∨nm=[46]):qW (f+1) n (nm::todo) cur k=qW f n todo cur k:=by
 rw[qW,zM1 h]
theorem qIy {f:Nat}{n:Nd}{todo cur:List qB}{k:Nat}:qW (f+1) n ([46,46]::todo) cur k=qW f n todo cur.dropLast k:=by
 rw[qW,zL1 (by decide),zM1 rfl]
theorem qFV {f:Nat}{n:Nd}{nm:qB}{todo cur:List qB}{k:Nat}(h:¬ (nm=[]∨nm=[46]))(h2:nm≠[46,46])(h3:isName nm=false):qW (f+1) n (nm::todo) cur k=.error 5:=by
 rw[qW,zL1 h,zL1 h2,zM1 h3]
theorem qEZ {f:Nat}{n:Nd}{nm:qB}{todo cur:List qB}{k:Nat}(h:¬ (nm=[]∨nm=[46]))(h2:nm≠[46,46])(h3:isName nm=true)(h4:jJ n (cur++[nm])=none):qW (f+1) n (nm::todo) cur k=.error 6:=by
 rw[qW,zL1 h,zL1 h2,zL1 (by rw[h3];decide),h4]
theorem qFW {f:Nat}{n x:Nd}{nm:qB}{todo cur:List qB}{k:Nat}(h:¬ (nm=[]∨nm=[46]))(h2:nm≠[46,46])(h3:isName nm=true)(h4:jJ n (cur++[nm])=some x)(h5:x.kind≠kLink):qW (f+1) n (nm::todo) cur k=qW f n todo (cur++[nm]) k:=by
 rw[qW,zL1 h,zL1 h2,zL1 (by rw[h3];decide),h4];simp only;rw[zM1 h5]
theorem qFp {f:Nat}{n x:Nd}{nm:qB}{todo cur:List qB}{k:Nat}(h:¬ (nm=[]∨nm=[46]))(h2:nm≠[46,46])(h3:isName nm=true)(h4:jJ n (cur++[nm])=some x)(h5:x.kind=kLink)(h6:16<k+1):qW (f+1) n (nm::todo) cur k=.error 9:=by
 rw[qW,zL1 h,zL1 h2,zL1 (by rw[h3];decide),h4];simp only;rw[zL1 (by simp[h5]),zM1 h6]
theorem qE2 {f:Nat}{n x:Nd}{nm:qB}{todo cur:List qB}{k:Nat}(h:¬ (nm=[]∨nm=[46]))(h2:nm≠[46,46])(h3:isName nm=true)(h4:jJ n (cur++[nm])=some x)(h5:x.kind=kLink)(h6:¬ 16<k+1):qW (f+1) n (nm::todo) cur k=qW f n (qG 47 x.data++todo) (if x.data.head?=some 47 then [] else cur) (k+1):=by
 rw[qW,zL1 h,zL1 h2,zL1 (by rw[h3];decide),h4];simp only;rw[zL1 (by simp[h5]),zL1 h6]
mutual
def kM:Nd→Nat | .mk _ _ _ ks=>vO ks+1
def vO:List (qB×Nd)→Nat | []=>0 | (_,x)::r=>kM x+vO r
end
mutual
theorem qHf:∀ (n:Nd) (p:qB) (deep:Nat),(flat n p deep).length=kM n
 | .mk k d e ks,p,deep=>by rw[flat,zQ,qE8 ks p (deep+1),kM]
theorem qE8:∀ (l:List (qB×Nd)) (p:qB) (deep:Nat),(flatL l p deep).length=vO l
 | [],p,deep=>by simp[flatL,vO]
 | (nm,x)::r,p,deep=>by rw[flatL,zP,qHf x _ _,qE8 r _ _,vO]
end
theorem nI (n:Nd):1≤kM n:=by obtain⟨k,d,e,ks⟩:=n;rw[kM];omega
theorem qB8:∀ a b:List (qB×Nd),vO (a++b)=vO a+vO b
 | [],b=>by simp[vO]
 | (nm,x)::r,b=>by rw[zE,vO,qB8 r b,vO];omega
theorem qCs:∀ a:List (qB×Nd),a.length≤vO a
 | []=>zo _
 | (nm,x)::r=>by have:=qCs r;have:=nI x;rw[vO];simp;omega
mutual
theorem qBE:∀ (a b:Nd) (s:qB),(kC a b s).length≤kM a+kM b
 | .mk k d e ks,b,s=>by
  rw[kC];have h1:=mD ks b.kids s;have h2:vO b.kids+1=kM b:=by obtain⟨k2,d2,e2,ks2⟩:=b;rw[kM];rfl
  rw[kM];split
  ·simp
  ·split
   ·omega
   ·simp only[List.length_singleton];omega
theorem mD:∀ (a b:List (qB×Nd)) (s:qB),(qV a b s).length≤vO a+vO b
 | [],l,s=>by
  rw[qV,zT];have:=qCs l;omega
 | (x,n)::a,l,s=>by
  have hl:vO (l.takeWhile fun q=>decide (q.1<x))+vO (l.dropWhile fun q=>decide (q.1<x))=vO l:=by
   rw[← qB8,List.takeWhile_append_dropWhile]
  have ht:=qCs (l.takeWhile fun q=>decide (q.1<x));have hn:=nI n;rw[qV,zP,zT,vO]
  cases hd:(l.dropWhile fun q=>decide (q.1<x)) with
  | nil =>
   rw[hd] at hl;have h1:=mD a [] s;simp only[vO] at h1 hl;simp only[zQ];omega
  | cons y b =>
   obtain⟨y,m⟩:=y;rw[hd] at hl;rw[vO] at hl;have h1:=mD a b s;have h2:=mD a ((y,m)::b) s;rw[vO] at h2;have h3:=qBE n m (s++47::x);simp only;split
   ·rw[zP];omega
   ·simp only[zQ];omega
end
theorem pY {a b:Nd}(ha:treeErr a=0)(hb:treeErr b=0)(s:qB):kM a≤200∧kM b≤200∧(kC a b s).length≤400:=by
 have h1:=(items_well ha).1;have h2:=(items_well hb).1;rw[qHf] at h1 h2;have:=qBE a b s;exact⟨h1,h2,by omega⟩
theorem qBX (c:UInt8){l a b:qB}(h:cutAt c l=some (a,b)):l=a++c::b:=by
 rcases pG c l with ⟨h1,_,_⟩ | ⟨a',b',h1,_,h3⟩
 ·rw[h1] at h;cases h
 ·rw[h1] at h;injection h with h
  injection h with h4 h5
  rw[h3,h4,h5]
theorem qA9 {x r:qB}(h:vY x=some r):∃ y,x=record r++y:=by
 unfold vY at h
 cases hc:cutAt 58 x with
 | none=>rw[hc] at h;cases h
 | some q =>
  obtain⟨d,rest⟩:=q;rw[hc] at h;simp only at h
  cases hn:qI d 9 with
  | none=>rw[hn] at h;cases h
  | some n =>
   rw[hn] at h;simp only at h;split at h
   ·cases h
   ·rename_i hb
    injection h with h
    have hx:=qBX 58 hc;have h2:=(wV d 9 (by omega) n).1 hn;rw[pA] at h2;have hlen:¬ rest.length<n+2:=fun h=>hb (.inr (.inl h))
    have h10:(rest.drop n).take 2=[10,46]:=Classical.byContradiction fun h=>hb (.inr (.inr h))
    have hr:r.length=n:=by rw[← h,List.length_take];omega
    refine⟨(rest.drop n).drop 2,?_⟩;have e1:rest=rest.take n++((rest.drop n).take 2++(rest.drop n).drop 2):=by rw[List.take_append_drop,List.take_append_drop]
    rw[h,h10] at e1;rw[hx,← h2.2.2];unfold record;rw[hr]
    conv=>lhs;rw[e1]
    simp
theorem qBD (r:qB):3≤(record r).length:=by
 unfold record;simp only[zP,zQ,List.length_nil];omega
theorem qBl:∀ (f g:Nat) (x:qB),x.length<f→x.length<g→qU f x=qU g x
 | f+1,g+1,x,hf,hg=>by
  unfold qU
  cases h:vY x with
  | none=>rfl
  | some r =>
   obtain⟨y,hy⟩:=qA9 h;have hl:x.length=(record r).length+y.length:=by rw[hy,zP]
   have h3:=qBD r;simp only;rw[qBl f g (x.drop (record r).length) (by rw[List.length_drop];omega) (by rw[List.length_drop];omega)]
theorem qEv {f:Nat}{x:qB}(h:vY x=none):qU f x=([],0):=by
 cases f with
 | zero=>rfl
 | succ f=>unfold qU;rw[h]
structure ReadUp (b:qB)(at_:Nat)(out:List qB):Prop where
 le:at_≤b.length
 eq:qU (b.length+1) b=(out++(qU (b.length+1) (b.drop at_)).1,at_+(qU (b.length+1) (b.drop at_)).2)
theorem qFO (b:qB):ReadUp b 0 []:=⟨zw _,by simp⟩
theorem ReadUp.more {b:qB}{at_:Nat}{out:List qB}(h:ReadUp b at_ out){r:qB}(hr:vY (b.drop at_)=some r):ReadUp b (at_+(record r).length) (out++[r])∧at_+(record r).length≤b.length:=by
 obtain⟨y,hy⟩:=qA9 hr;have hl:(b.drop at_).length=(record r).length+y.length:=by rw[hy,zP]
 rw[List.length_drop] at hl;have hle:=h.le;refine⟨⟨by omega,?_⟩,by omega⟩;rw[h.eq];have e:qU (b.length+1) (b.drop at_)=(r::(qU b.length ((b.drop at_).drop (record r).length)).1,(record r).length+(qU b.length ((b.drop at_).drop (record r).length)).2):=by
  conv=>lhs;unfold qU
  rw[hr]
 have h3:=qBD r;rw[e,List.drop_drop,qBl b.length (b.length+1) (b.drop (at_+(record r).length)) (by rw[List.length_drop];omega) (by rw[List.length_drop];omega)];simp[Nat.add_assoc]
theorem ReadUp.done {b:qB}{at_:Nat}{out:List qB}(h:ReadUp b at_ out)(hr:vY (b.drop at_)=none):qU (b.length+1) b=(out,at_):=by
 rw[h.eq,qEv hr];simp
def RunSto (i:Nat)(s:Sto):Prop:=RunOk i s ⟨[],false,none⟩
theorem qFm {n:Nat}(h:n≤512):RunSto 0 (Sto.new n):=qJH h
theorem RunOk.alone {i:Nat}{s:Sto}{t:Tape}(h:RunOk i s t):RunSto i s :=
 ⟨h.sto,h.disk,h.inos,h.next,h.ents,rfl,rfl,zw _⟩
theorem RunSto.step {i:Nat}{s s1:Sto}{line a:qB}(h:RunSto i s)(hi:i≤300)(hl:line.length≤250)(hc:s.change line=some (.ok (a,s1))):RunSto (i+1) s1:=by
 have h1:=qLG h hi hl;have e:(yH s ⟨[],false,none⟩ line).2.1=s1:=by
  unfold yH;rw[hc];simp only;rw[qBM hl rfl rfl (by decide),zM1 rfl]
 rw[e] at h1;exact h1.alone
theorem xP:∀ (f:Nat) (n:Nd) (todo cur:List qB) (k:Nat),Few (qW f n todo cur k)
 | 0,_,_,_,_=>qF (by decide)
 | _+1,_,[],_,_=>jH _
 | f+1,n,nm::todo,cur,k=>by
  unfold qW;split
  ·exact xP f _ _ _ _
  ·split
   ·exact xP f _ _ _ _
   ·split
    ·exact qF (by decide)
    ·split
     ·exact qF (by decide)
     ·split
      ·exact xP f _ _ _ _
      ·split
       ·exact qF (by decide)
       ·exact xP f _ _ _ _
theorem qF0 (n:Nd)(s:qB):Few (xY n s):=by
 unfold xY;split
 ·exact qF (kU n)
 ·split
  ·exact qF (by decide)
  ·exact xP _ _ _ _ _
theorem qDY (a b:Nd):Few (jW a b):=by
 unfold jW;split
 ·exact qF (kU a)
 ·split
  ·exact qF (kU b)
  ·exact jH _
theorem qMo (s:Sto)(h:qB)(r:List qB):Few (uX s h r):=by
 unfold uX;split
 ·rename_i e he
  exact qF (qD0 _ _ e he)
 ·split
  ·exact jH _
  ·split
   ·exact jH _
   ·split
    ·exact qF0 _ _
    ·split
     ·rename_i e he
      exact qF (qD0 _ _ e he)
     ·exact uQ _ (qDY _ _)
theorem qIK {i:Nat}{s:Sto}{t:Tape}{rs:List qB}{x:qB}(h:ScrOk 64 i s t rs x)(line:qB):Few (qL s t line).1:=by
 unfold qL;split
 ·exact qDW _ _ _
 ·split
  ·exact qDW _ _ _
  ·split
   ·unfold mW;split
    ·split
     ·exact qF (by decide)
     ·split
      ·exact qF (by decide)
      ·exact jH _
    ·split
     ·obtain⟨_,h2,_⟩:=qCn h;rw[h2];exact jH _
     ·exact qMo _ _ _
   ·exact qF (by decide)
def dU:Sto:=Sto.new 64
def mM:Tape:=⟨[],false,none⟩
theorem qAu:∀ (l m:List qB) (s:Sto) (t:Tape),vW s t (l++m)=vW (vW s t l).1 (vW s t l).2 m
 | [],_,_,_=>rfl
 | x::r,m,s,t=>by
  show vW _ _ (r++m)=_;rw[qAu r m];rfl
theorem qCA (T:Nat→qB){l:List qB}{j:Nat}{x:qB}(hx:l[j]?=some x){s:Sto}{t:Tape}(h:vW dU mM (l.take j)=(s,t)) :
  qY T dU mM (l.take (j+1))=qY T dU mM (l.take j)++[nL T (qL s t x).1]∧vW dU mM (l.take (j+1))=((qL s t x).2.1,(qL s t x).2.2):=by
 obtain⟨hj,rfl⟩:=zM.1 hx;rw[zn hj,qAb,qAu,h];exact⟨rfl,rfl⟩
theorem qMk (d:UInt8):∀ (s:qB),qG d s≠[]
 | s=>by
  rw[xE]
  cases cutAt d s with
  | none=>exact fun h=>by cases h
  | some q=>exact fun h=>by cases h
def RunAt (l:List qB)(j:Nat)(s:Sto)(t:Tape):Prop:=vW dU mM (l.take j)=(s,t)∧∃ rs x,ScrOk 64 j s t rs x
theorem qNu (l:List qB):RunAt l 0 dU mM:=⟨rfl,[],[],qJ5 (by decide)⟩
theorem RunAt.more {l:List qB}{j:Nat}{s:Sto}{t:Tape}(h:RunAt l j s t){x:qB}(hx:l[j]?=some x)(hi:j≤300)(hl:x.length≤250):RunAt l (j+1) (qL s t x).2.1 (qL s t x).2.2:=by
 obtain⟨rs,y,ho⟩:=h.2;exact⟨(qCA (fun _=>[]) hx h.1).2,qMq ho hi hl⟩
theorem RunAt.few {l:List qB}{j:Nat}{s:Sto}{t:Tape}(h:RunAt l j s t)(line:qB):Few (qL s t line).1:=by
 obtain⟨rs,x,ho⟩:=h.2;exact qIK ho line
def uF:List qB:=[[97,100,100,32,97,32,100,49,58,49,58,120,102,50,58,104,105],[102,105,108,101,115,32,97],[115,105,122,101,32,97],[114,111,111,116,32,97],[103,99],[108,105,115,116]]
def uL:List qB:=[[111,107],[47,120],[50,32,50],[111,107],[48],[97]]
def qHT:Sto→Tape→List qB→List qB→Bool
 | _,_,[],[]=>true
 | s,t,l::r,a::q=>qOh (qL s t l).1 a&&qHT (qL s t l).2.1 (qL s t l).2.2 r q
 | _,_,_,_=>false
theorem qDL (T:Nat→qB):∀ (l a:List qB) (s:Sto) (t:Tape),qHT s t l a=true→qY T s t l=a
 | [],[],_,_,_=>rfl
 | [],_::_,_,_,h=>by cases h
 | _::_,[],_,_,h=>by cases h
 | x::r,a::q,s,t,h=>by
  unfold qHT at h;rw[zC] at h;rw[qY,qL9 h.1,qDL T r q _ _ h.2];rfl
theorem qKs:qHT (Sto.new 64) ⟨[],false,none⟩ uF uL=true:=by decide +kernel
theorem qJ0 (T:Nat→qB):qY T (Sto.new 64) ⟨[],false,none⟩ uF=uL:=qDL T _ _ _ _ qKs
def yOf (l:List qB)(n j:Nat):List qB:=(l.take j).take n++if n<j then pU::(l.take j).drop n else []
theorem yOf0 (l:List qB)(n:Nat):yOf l n 0=[]:=by simp[yOf]
theorem qPi {l:List qB}{n j:Nat}{x:qB}(hx:l[j]?=some x):yOf l n (j+1)=yOf l n j++if j=n then [pU,x] else [x]:=by
 obtain⟨hj,rfl⟩:=zM.1 hx;have hlen:(l.take j).length=j:=by rw[List.length_take];omega
 unfold yOf;rw[zn hj]
 rcases Nat.lt_trichotomy j n with h | h | h
 ·rw[zL1 (by omega),zL1 (by omega),zL1 (by omega),List.append_nil,List.append_nil];rw[zm (l:=l.take j++[l[j]]) (by rw[zP,hlen,List.length_singleton];omega),zm (l:=l.take j) (by omega)]
 ·subst h;rw[zM1 (by omega),zL1 (by omega),zM1 rfl,List.take_left' hlen,List.drop_left' hlen,List.append_nil,zm (l:=l.take j) (by omega)]
 ·rw[zM1 (by omega),zM1 h,zL1 (by omega),zj (by omega),List.drop_append_of_le_length (by omega)];simp
theorem qPh {l:List qB}{n j:Nat}{x:qB}(hx:l[j]?=some x):yOf l n (j+1)=(yOf l n j++if j=n then [pU] else [])++[x]:=by
 rw[qPi hx];split<;>simp
theorem qPe {l:List qB}{j:Nat}{x:qB}(hx:l[j]?=some x):l.take (j+1)=l.take j++[x]:=by
 obtain⟨hj,rfl⟩:=zM.1 hx;exact zn hj
theorem qPb {l:List qB}{n j:Nat}(hj:j≤l.length):(yOf l n j).length=if n<j then j+1 else j:=by
 unfold yOf;have hlen:(l.take j).length=j:=by rw[List.length_take];omega
 split
 ·rw[zP,List.length_take,zQ,List.length_drop,hlen];omega
 ·rw[zP,List.length_take,hlen];simp;omega
theorem qPf {l:List qB}{n j:Nat}{m:Nat}(hm:5≤m)(h:∀ x∈l,x.length≤m):∀ x∈yOf l n j,x.length≤m:=by
 intro x hx;unfold yOf at hx
 rcases zX.1 hx with hx | hx
 ·exact h x (List.mem_of_mem_take (List.mem_of_mem_take hx))
 ·split at hx
  ·rcases zY.1 hx with rfl | hx
   ·exact hm
   ·exact h x (List.mem_of_mem_take (List.mem_of_mem_drop hx))
  ·cases hx
theorem qPl (l:List qB)(n:Nat):yOf l n l.length=if n<l.length then l.take n++pU::l.drop n else l:=by
 unfold yOf;rw[zk];split
 ·rfl
 ·rw[zm (by omega),List.append_nil]
theorem qPj (T:Nat→qB)(l:List qB)(n:Nat)(hl:l.length≤200)(h1:∀ x∈l,x.length≤250)(h2:∀ x∈l,(x.takeWhile fun c=>c != 32)≠oN)(i:Nat)(hi:i<l.length) :
  (qY T dU mM (yOf l n l.length))[if n<l.length∧n≤i then i+1 else i]?=(qY T dU mM l)[i]?:=by
 have hR:(qY T dU mM l).length=l.length:=yB T l _ _;rw[qPl];by_cases hn:n<l.length
 ·rw[zM1 hn,show qY T dU mM (l.take n++pU::l.drop n)=(qY T dU mM l).take n++bOk::(qY T dU mM l).drop n from qPc T l n hl h1 h2];generalize qY T dU mM l=R at *;have ht:(R.take n).length=n:=by rw[List.length_take];omega
  by_cases hni:n≤i
  ·rw[zM1 ⟨hn,hni⟩,List.getElem?_append_right (by omega),ht,show i+1-n=(i-n)+1 by omega,List.getElem?_cons_succ,List.getElem?_drop,show n+(i-n)=i by omega]
  ·rw[zL1 (by omega),List.getElem?_append_left (by omega),List.getElem?_take,zM1 (by omega)]
 ·rw[zL1 hn,zL1 (by omega)]
end Stl
