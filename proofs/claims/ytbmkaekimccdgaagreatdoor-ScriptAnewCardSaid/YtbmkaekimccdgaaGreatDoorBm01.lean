/- Lemmas. -/
import Derived.Below
import Derived.Handy
import Derived.Laws.OwnMore
import Derived.Lib.Hide
import Derived.LoopTactic
import Derived.WalkKit
set_option maxHeartbeats 16000000
set_option maxRecDepth 1000000
set_option linter.all false
def Hg (p:Prop):Prop:=p
theorem Hg.o {p:Prop} (h:Hg p):p:=h
theorem Hh {p:Prop} (h:p):Hg p:=h
abbrev zA:=@Go.RowKit.Below.heap_setCell
abbrev zB:=@Go.RowKit.Below.refl
abbrev zC:=@Bool.and_eq_true
abbrev zD:=@List.cons.injEq
abbrev zE:=@List.cons_append
abbrev zF:=@List.drop_eq_getElem_cons
abbrev zG:=@List.drop_of_length_le
abbrev zH:=@List.eq_nil_of_length_eq_zero
abbrev zI:=@List.filter_cons
abbrev zJ:=@List.filter_cons_of_neg
abbrev zK:=@List.filter_cons_of_pos
abbrev zL:=@List.getElem?_eq_getElem
abbrev zM:=@List.getElem?_eq_some_iff
abbrev zN:=@List.getElem?_map
abbrev zO:=@List.getElem_mem
abbrev zP:=@List.length_append
abbrev zQ:=@List.length_cons
abbrev zR:=@List.length_eq_zero_iff
abbrev zS:=@List.length_filter_le
abbrev zT:=@List.length_map
abbrev zU:=@List.map_append
abbrev zV:=@List.map_cons
abbrev zW:=@List.map_map
abbrev zX:=@List.mem_append
abbrev zY:=@List.mem_cons
abbrev zZ:=@List.mem_filter
abbrev za:=@List.mem_flatMap
abbrev zb:=@List.mem_map
abbrev ze:=@List.mem_map_of_mem
abbrev zf:=@List.mem_of_find?_eq_some
abbrev zg:=@List.mem_singleton
abbrev zh:=@List.nil_append
abbrev zi:=@List.pairwise_cons
abbrev zj:=@List.take_append_of_le_length
abbrev zk:=@List.take_length
abbrev zm:=@List.take_of_length_le
abbrev zn:=@List.take_succ_eq_append_getElem
abbrev zo:=@Nat.le_refl
abbrev zq:=@Nat.le_trans
abbrev zr:=@Nat.lt_irrefl
abbrev zt:=@Nat.lt_of_lt_of_le
abbrev zu:=@Nat.lt_or_ge
abbrev zv:=@Nat.zero_add
abbrev zw:=@Nat.zero_le
abbrev zx:=@Option.getD_some
abbrev zy:=@Option.isSome_iff_exists
abbrev zA1:=@Option.map_some
abbrev zB1:=@Option.some.injEq
abbrev zC1:=@Go.Value.slice.injEq
abbrev zD1:=@Go.World.cell?_of_block
abbrev zE1:=@Go.World.frozen?_of_block
abbrev zF1:=@Go.World.ownsRow_nil
abbrev zG1:=@beq_eq_false_iff_ne
abbrev zH1:=@Go.bodyPost_ret
abbrev zI1:=@Go.callsIn_wide
abbrev zJ1:=@Go.cell_of_row
abbrev zK1:=@Go.heap_alloc_new
abbrev zL1:=@if_neg
abbrev zM1:=@if_pos
abbrev zN1:=@Go.lt_of_block
abbrev zO1:=@Go.ownsRow_setCell_other
namespace Stl
def isLetter (c:UInt8):Bool:=(97≤c&&c≤122)||(48≤c&&c≤57)||c==46||c==45
def word (s:List UInt8):List UInt8:=s.takeWhile isLetter
def isName (s:List UInt8):Bool:=decide (1≤s.length)&&decide (s.length≤12)&&s.all isLetter&&s != [46]&&s != [46,46]
def dP:List UInt8→List (List UInt8)
 | []=>[]
 | c::r=>if c==35 then word r::dP r else dP r
theorem qFJ {s:List UInt8}(h:isName s=true):s.all isLetter=true:=by
 simp[isName] at h;simpa using h.1.1.2
theorem qHk {s:List UInt8}(h:isName s=true):1≤s.length:=by
 simp[isName] at h;have:=h.1.1.1.1;omega
theorem mX {s:List UInt8}(h:isName s=true):s.length≤12:=by
 simp[isName] at h;have:=h.1.1.1.2;omega
theorem word_take (s:List UInt8):s.take (word s).length=word s:=by
 induction s with
 | nil=>rfl
 | cons c r ih =>
  cases hc:isLetter c
  ·simp[word,List.takeWhile_cons,hc]
  ·have:word (c::r)=c::word r:=by simp[word,List.takeWhile_cons,hc]
   rw[this];simpa using ih
theorem word_length_le (s:List UInt8):(word s).length≤s.length:=by
 have:=congrArg List.length (word_take s);simp at this;omega
def mentsAt:Nat→List UInt8→List (Nat×List UInt8)
 | _,[]=>[]
 | k,c::r=>if c==35 then (k+1,word r)::mentsAt (k+1) r else mentsAt (k+1) r
theorem mentsAt_words:∀ (k:Nat) (s:List UInt8),(mentsAt k s).map (·.2)=dP s
 | _,[]=>rfl
 | k,c::r=>by
  unfold mentsAt dP;split<;>simp[mentsAt_words (k+1) r]
theorem mentsAt_length:∀ (k:Nat) (s:List UInt8),(mentsAt k s).length≤s.length
 | _,[]=>by simp[mentsAt]
 | k,c::r=>by
  have:=mentsAt_length (k+1) r;unfold mentsAt;split<;>simp only[zQ]<;>omega
abbrev qB:=List UInt8
theorem blt_irrefl (a:qB):¬ a<a:=List.lt_irrefl a
theorem qCD {a b c:qB}(h:a<b)(k:b<c):a<c:=List.lt_trans h k
theorem blt_tri (a b:qB):a<b∨a=b∨b<a:=by
 rcases Decidable.em (a<b) with h | h
 ·exact .inl h
 ·rcases Decidable.em (b<a) with h2 | h2
  ·exact .inr (.inr h2)
  ·exact .inr (.inl (List.le_antisymm (List.not_lt.1 h2) (List.not_lt.1 h)))
def Rise (l:List qB):Prop:=l.Pairwise (·<·)
def ins (s:qB):List qB→List qB
 | []=>[s]
 | x::r=>if x<s then x::ins s r else if x=s then x::r else s::x::r
theorem dM (s y:qB):∀ l:List qB,y∈ins s l↔y=s∨y∈l
 | []=>by simp[ins]
 | x::r=>by
  unfold ins;split
  ·simp only[zY,dM s y r];constructor
   ·rintro (h | h | h)<;>simp[h]
   ·rintro (h | h | h)<;>simp[h]
  ·split
   ·rename_i h;subst h;simp
   ·simp
theorem qEk (s:qB):∀ l:List qB,Rise l→Rise (ins s l)
 | [],_=>by simp[ins,Rise]
 | x::r,h=>by
  unfold Rise at h;obtain⟨h1,h2⟩:=zi.1 h;unfold ins;split
  ·rename_i hx
   refine zi.2 ⟨fun y hy=>?_,qEk s r h2⟩
   rcases (dM s y r).1 hy with rfl | hy
   ·exact hx
   ·exact h1 y hy
  ·split
   ·exact h
   ·rename_i hx hne
    have hs:s<x:=by
     rcases blt_tri x s with h3 | h3 | h3
     ·exact absurd h3 hx
     ·exact absurd h3 hne
     ·exact h3
    refine zi.2 ⟨fun y hy=>?_,h⟩
    rcases zY.1 hy with rfl | hy
    ·exact hs
    ·exact qCD hs (h1 y hy)
theorem qG7:∀ (a b:List qB),Rise a→Rise b→(∀ y,y∈a↔y∈b)→a=b
 | [],[],_,_,_=>rfl
 | [],y::b,_,_,h=>by have:=(h y).2 (by simp);cases this
 | x::a,[],_,_,h=>by have:=(h x).1 (by simp);cases this
 | x::a,y::b,ha,hb,h=>by
  obtain⟨a1,a2⟩:=zi.1 ha;obtain⟨b1,b2⟩:=zi.1 hb;have e:x=y:=by
   rcases zY.1 ((h x).1 (by simp)) with e | hx
   ·exact e
   ·rcases zY.1 ((h y).2 (by simp)) with e | hy
    ·exact e.symm
    ·exact absurd (qCD (a1 y hy) (b1 x hx)) (blt_irrefl x)
  subst e;have ih:a=b:=qG7 a b a2 b2 (fun z=>by
   constructor
   ·intro hz
    rcases zY.1 ((h z).1 (by simp[hz])) with e | hz2
    ·subst e;exact absurd (a1 z hz) (blt_irrefl z)
    ·exact hz2
   ·intro hz
    rcases zY.1 ((h z).2 (by simp[hz])) with e | hz2
    ·subst e;exact absurd (b1 z hz) (blt_irrefl z)
    ·exact hz2)
  rw[ih]
def insAll (l acc:List qB):List qB:=l.foldl (fun a s=>ins s a) acc
theorem mem_insAll (y:qB):∀ (l acc:List qB),y∈insAll l acc↔y∈l∨y∈acc
 | [],acc=>by simp[insAll]
 | s::r,acc=>by
  have h:=mem_insAll y r (ins s acc);unfold insAll at h ⊢;rw[List.foldl_cons,h,dM];simp only[zY];constructor
  ·rintro (h | h | h)<;>simp[h]
  ·rintro ((h | h) | h)<;>simp[h]
theorem rise_insAll:∀ (l acc:List qB),Rise acc→Rise (insAll l acc)
 | [],acc,h=>h
 | s::r,acc,h=>rise_insAll r (ins s acc) (qEk s acc h)
theorem rise_nil:Rise []:=List.Pairwise.nil
theorem qK6 {l m:List qB}(hm:Rise m)(h:∀ y,y∈m↔y∈l):m=insAll l [] :=
 qG7 _ _ hm (rise_insAll _ _ rise_nil) fun y=>by rw[h,mem_insAll];simp
theorem qDU (s:qB):∀ l:List qB,(ins s l).length≤l.length+1
 | []=>by simp[ins]
 | x::r=>by
  have:=qDU s r;unfold ins;split
  ·simp only[zQ];omega
  ·split<;>simp
theorem qBh:∀ (l acc:List qB),(insAll l acc).length≤acc.length+l.length
 | [],acc=>by simp[insAll]
 | s::r,acc=>by
  have h:=qBh r (ins s acc);have:=qDU s acc;unfold insAll at h ⊢;simp only[List.foldl_cons,zQ];omega
def found (s:qB)(names:List qB):List qB:=insAll ((dP s).filter fun w=>isName w&&names.contains w) []
inductive Nd where
 | mk (kind data:List UInt8) (exec:Bool) (kids:List (List UInt8×Nd))
def Nd.kind:Nd→List UInt8 | .mk k _ _ _=>k
def Nd.data:Nd→List UInt8 | .mk _ d _ _=>d
def Nd.exec:Nd→Bool | .mk _ _ e _=>e
def Nd.kids:Nd→List (List UInt8×Nd) | .mk _ _ _ ks=>ks
structure It where
 path:List UInt8
 deep:Nat
 n:Nd
section
variable (own:Nd→Nat)
mutual
def chk:Nd→Nat→Nat→Nat×Nat
 | .mk k d e ks,deep,c=>if 8<deep then (9,c+1) else if 200<c+1 then (8,c+1) else if own (.mk k d e ks)=0 then chkL ks (deep+1) (c+1) else (own (.mk k d e ks),c+1)
def chkL:List (List UInt8×Nd)→Nat→Nat→Nat×Nat
 | [],_,c=>(0,c)
 | (_,x)::r,deep,c=>if (chk x deep c).1=0 then chkL r deep (chk x deep c).2 else chk x deep c
end
def qL5 (most:Nat)(x:It):List It:=(x.n.kids.take (most+1)).map fun p=>⟨x.path++47::p.1,x.deep+1,p.2⟩
def pre (most deep:Nat):Nat→List It→List It
 | 0,l=>l
 | _,[]=>[]
 | f+1,x::r=>x::pre most deep f (if deep<x.deep then r else qL5 most x++r)
theorem qMK (n:Nd)(deep c:Nat)(h:200≤c):(chk own n deep c).1≠0:=by
 cases n
 unfold chk;split
 ·simp
 ·rw[zM1 (by omega)];simp
theorem qOB (n:Nd)(deep c:Nat)(h:(chk own n deep c).1=0):c<200:=by
 rcases zu c 200 with h2 | h2
 ·exact h2
 ·exact absurd h (qMK own n deep c h2)
theorem qGO:∀ (l:List (List UInt8×Nd)) (deep c:Nat),c≤200→(chkL own l deep c).1=0→(chkL own l deep c).2≤200
 | [],_,c,hc,_=>by simpa[chkL] using hc
 | (_,x)::r,deep,c,hc,h=>by
  unfold chkL at h ⊢;by_cases h1:(chk own x deep c).1=0
  ·rw[zM1 h1] at h ⊢;refine qGO r deep _ ?_ h
   rcases zu 200 (chk own x deep c).2 with h2 | h2
   ·exfalso
    cases x with
    | mk k d e ks =>
     unfold chk at h1 h2;split at h1
     ·simp at h1
     ·rename_i hd
      rw[zL1 hd] at h2;split at h1
      ·simp at h1
      ·rename_i hd2
       rw[zL1 hd2] at h2;split at h1
       ·rename_i hd3
        rw[zM1 hd3] at h2;have:=qGO ks (deep+1) (c+1) (by omega) h1;omega
       ·rename_i hd3
        exact hd3 h1
   ·exact h2
  ·rw[zL1 h1] at h;exact absurd h h1
theorem chk_two_le (x:Nd)(deep c:Nat)(h1:(chk own x deep c).1=0):(chk own x deep c).2≤200:=by
 have hc:=qOB own x deep c h1;have h:=qGO own [([],x)] deep c (by omega);simp only[chkL] at h;rw[zM1 h1] at h;exact h rfl
mutual
def flat:Nd→List UInt8→Nat→List It
 | .mk k d e ks,path,deep=>⟨path,deep,.mk k d e ks⟩::flatL ks path (deep+1)
def flatL:List (List UInt8×Nd)→List UInt8→Nat→List It
 | [],_,_=>[]
 | (nm,x)::r,path,deep=>flat x (path++47::nm) deep++flatL r path deep
end
theorem qHI:∀ (l:List (List UInt8×Nd)) (path:List UInt8) (deep:Nat),flatL l path deep=(l.map fun p=>(⟨path++47::p.1,deep,p.2⟩:It)).flatMap fun x=>flat x.n x.path x.deep
 | [],_,_=>rfl
 | (nm,x)::r,path,deep=>by simp[flatL,qHI r path deep]
theorem qNy (x:It):flat x.n x.path x.deep=x::(x.n.kids.map fun p=>(⟨x.path++47::p.1,x.deep+1,p.2⟩:It)).flatMap fun x=>flat x.n x.path x.deep:=by
 obtain⟨p,d,n⟩:=x
 cases n
 simp[flat,qHI,Nd.kids]
end
def kFile:qB:=[102,105,108,101]
def kDir:qB:=[100,105,114]
def kLink:qB:=[108,105,110,107]
def gL:List qB→Bool
 | a::b::r=>decide (a<b)&&gL (b::r)
 | _=>true
def ownErrP (k d:qB)(e:Bool)(nms:List qB):Nat :=
 if k≠kFile∧k≠kDir∧k≠kLink then 4
 else if (k≠kDir∧nms≠[])∨(k≠kFile∧e=true)∨(k=kDir∧d≠[]) then 3
 else if 2000<d.length∨(k=kLink∧(d.length<1∨40<d.length)) then 2
 else if k=kLink∧d.any (fun c=>decide (c<33)||decide (126<c))=true then 1
 else if nms.all isName=false then 5
 else if gL nms=false then 10
 else 0
def ownErr (n:Nd):Nat:=ownErrP n.kind n.data n.exec (n.kids.map (·.1))
def treeErr (n:Nd):Nat:=(chk ownErr n 0 0).1
def told (p:qB):qB:=if p=[] then [47] else p
def items (n:Nd):List It:=if treeErr n=0 then flat n [] 0 else []
def qR (n:Nd):List qB:=((items n).filter fun x=>x.n.kind==kFile).map fun x=>told x.path
mutual
def wH:Nd→Nd→Bool
 | .mk k d e ks,.mk k' d' e' ks'=>k==k'&&d==d'&&e==e'&&vV ks ks'
def vV:List (qB×Nd)→List (qB×Nd)→Bool
 | [],[]=>true
 | (a,x)::r,(b,y)::s=>a==b&&wH x y&&vV r s
 | _,_=>false
end
mutual
theorem qJa:∀ a b:Nd,wH a b=true↔a=b
 | .mk k d e ks,.mk k' d' e' ks'=>by
  have:=qA5 ks ks';simp only[wH,zC,beq_iff_eq,this,Nd.mk.injEq,and_assoc]
theorem qA5:∀ a b:List (qB×Nd),vV a b=true↔a=b
 | [],[]=>by simp[vV]
 | [],_::_=>by simp[vV]
 | _::_,[]=>by simp[vV]
 | (a,x)::r,(b,y)::s=>by
  have h1:=qJa x y;have h2:=qA5 r s;simp only[vV,zC,beq_iff_eq,h1,h2,zD,Prod.mk.injEq]
end
def isDigit (c:UInt8):Bool:=48≤c&&c≤57
def wD (s:qB):Nat:=s.foldl (fun n c=>10*n+(c.toNat-48)) 0
def qI (s:qB)(most:Nat):Option Nat :=
 if s.length<1∨most<s.length∨(1<s.length∧s.head?=some 48)∨s.all isDigit=false then none else some (wD s)
def oV:Nat→Nat→qB
 | 0,_=>[]
 | f+1,n=>if n<10 then [48+n.toUInt8] else oV f (n/10)++[48+(n%10).toUInt8]
def dec (n:Nat):qB:=oV (n+1) n
def cutAt (by_:UInt8):qB→Option (qB×qB)
 | []=>none
 | c::r=>if c=by_ then some ([],r) else (cutAt by_ r).map fun p=>(c::p.1,p.2)
def qG (by_:UInt8):qB→List qB
 | []=>[[]]
 | c::r=>if c=by_ then []::qG by_ r else match qG by_ r with | []=>[[c]] | x::l=>(c::x)::l
def vH (s:qB):Option (Nat×qB) :=
 match cutAt 58 (s.take 7) with
 | none=>none
 | some (d,_)=>(qI d 6).map fun n=>(n,s.drop (d.length+1))
def qP (s:qB):Option (qB×qB) :=
 match vH s with
 | none=>none
 | some (n,r)=>if r.length<n then none else some (r.take n,r.drop n)
abbrev Rd (α:Type):=Except Nat (α×qB×Nat)
def vR (rd:qB→Nat→Rd Nd):Nat→qB→Nat→Rd (List (qB×Nd))
 | 0,s,n=>.ok ([],s,n)
 | k+1,s,n =>
  match qP s with
  | none=>.error 1
  | some (nm,s1) =>
   match rd s1 n with
   | .error e=>.error e
   | .ok (x,s2,n2) =>
    match vR rd k s2 n2 with
    | .error e=>.error e
    | .ok (l,s3,n3)=>.ok ((nm,x)::l,s3,n3)
def jM:Nat→qB→Nat→Rd Nd
 | 0,_,_=>.error 9
 | f+1,s,n =>
  if 200<n+1 then .error 8
  else match s with
   | []=>.error 1
   | c::r =>
    if c=100 then
     match vH r with
     | none=>.error 1
     | some (k,r1) =>
      match vR (jM f) k r1 (n+1) with
      | .error e=>.error e
      | .ok (l,s2,n2)=>.ok (.mk kDir [] false l,s2,n2)
    else if c=108∨c=102∨c=120 then
     match qP r with
     | none=>.error 1
     | some (d,s2)=>.ok (.mk (if c=108 then kLink else kFile) d (c=120) [],s2,n+1)
    else .error 1
def vP (s:qB):Except Nat Nd :=
 if 20000<s.length then .error 2
 else match jM 9 s 0 with
  | .error e=>.error e
  | .ok (n,r,_)=>if r≠[] then .error 1 else if treeErr n=0 then .ok n else .error (treeErr n)
def qQ (s:qB):Option (List qB) :=
 if s=[47] then some []
 else match qG 47 s with
  | []::l=>if l=[]∨8<l.length∨l.all isName=false then none else some l
  | _=>none
def hZ:List (qB×Nd)→qB→Option Nd
 | [],_=>none
 | (nm,x)::r,s=>if nm=s then some x else hZ r s
def jJ:Nd→List qB→Option Nd
 | n,[]=>some n
 | n,s::l=>match hZ n.kids s with | none=>none | some x=>jJ x l
def getPath (n:Nd)(s:qB):Except Nat Nd :=
 if treeErr n≠0 then .error (treeErr n)
 else match qQ s with
  | none=>.error 5
  | some l=>match jJ n l with | none=>.error 6 | some x=>.ok x
def crcBit (c:UInt32):UInt32:=(c >>> 1) ^^^ (0xEDB88320*(c &&& 1))
def crcByte (c:UInt32)(b:UInt8):UInt32:=Nat.repeat crcBit 8 (c ^^^ b.toUInt32)
def crc (s:qB):UInt32:= ~~~ (s.foldl crcByte 0xFFFFFFFF)
def jL (n:Nat):Nat:=(n+15)/16
structure Ino where
 bytes:Nat
 links:Nat
 exec:Bool
 blocks:List Nat
 sum:UInt32
structure Tab where
 disk:List qB
 l:List (Option Ino)
def Tab.at_ (t:Tab)(n:Nat):Option Ino:=(t.l[n]?).join
def Tab.isUsed (t:Tab)(k:Nat):Bool:=t.l.any fun | some x=>x.blocks.contains k | none=>false
def Tab.free (t:Tab):List Nat:=(List.range t.disk.length).filter fun k=>!t.isUsed k
def Tab.all (t:Tab):List Nat:=(List.range t.l.length).filter fun n=>(t.at_ n).isSome
def dK (s:qB):qB:=s++List.replicate (16-s.length) 0
def kG (disk:List qB):List Nat→qB→List qB
 | [],_=>disk
 | k::r,s=>kG (disk.set k (dK (s.take 16))) r (s.drop 16)
def firstFree:List (Option Ino)→Nat
 | []=>0
 | none::_=>0
 | some _::r=>firstFree r+1
def putAt (l:List (Option Ino))(n:Nat)(x:Ino):List (Option Ino):=if n<l.length then l.set n (some x) else l++[some x]
def Tab.make (t:Tab)(data:qB)(exec:Bool):Except Nat (Nat×Tab) :=
 if 2000<data.length then .error 2
 else if t.free.length<jL data.length then .error 8
 else .ok (firstFree t.l,{ disk:=kG t.disk (t.free.take (jL data.length)) data,l:=putAt t.l (firstFree t.l) ⟨data.length,1,exec,t.free.take (jL data.length),crc data⟩ })
def Tab.link (t:Tab)(n:Nat):Except Nat Tab :=
 match t.at_ n with
 | none=>.error 6
 | some x=>.ok { t with l:=t.l.set n (some { x with links:=x.links+1 }) }
def Tab.unlink (t:Tab)(n:Nat):Except Nat Tab :=
 match t.at_ n with
 | none=>.error 6
 | some x=>.ok { t with l:=t.l.set n (if x.links=1 then none else some { x with links:=x.links-1 }) }
def Tab.raw (t:Tab)(x:Ino):qB:=((x.blocks.map fun k=>t.disk.getD k []).flatten).take x.bytes
def Tab.read (t:Tab)(n:Nat):Except Nat qB :=
 match t.at_ n with
 | none=>.error 6
 | some x=>if crc (t.raw x)=x.sum then .ok (t.raw x) else .error 11
def Tab.scan (t:Tab):List Nat:=t.all.filter fun n=>match t.read n with | .ok _=>false | .error _=>true
def Tab.mend (t:Tab)(n:Nat)(data:qB):Except Nat Tab :=
 match t.at_ n with
 | none=>.error 6
 | some x =>
  if data.length≠x.bytes∨crc data≠x.sum then .error 11
  else match t.read n with
   | .ok _=>.error 7
   | .error _=>.ok { t with disk:=kG t.disk x.blocks data }
def turnBit (s:qB)(bit:Nat):qB:=s.set (bit/8) (s.getD (bit/8) 0 ^^^ ((1:UInt8) <<< (bit%8).toUInt8))
def Tab.rot (t:Tab)(k bit:Nat):Except Nat Tab :=
 if t.disk.length≤k∨128≤bit then .error 2 else .ok { t with disk:=t.disk.set k (turnBit (t.disk.getD k []) bit) }
mutual
def jA:Nd→Nd
 | .mk k d e ks=>.mk k (if k=kFile then [] else d) e (jO ks)
def jO:List (qB×Nd)→List (qB×Nd)
 | []=>[]
 | (nm,x)::r=>(nm,jA x)::jO r
end
structure Ent where
 k:Nat
 n:Nd
 f:List (qB×Nat)
structure Dirs where
 t:Tab
 l:List Ent
 next:Nat
def qE (n:Nd):List It:=(items n).filter fun x=>x.n.kind==kFile
def wX (n:Nd):Nat:=((qE n).map fun x=>jL x.n.data.length).sum
def makeAll (t:Tab):List It→Except Nat (List (qB×Nat)×Tab)
 | []=>.ok ([],t)
 | x::r =>
  match t.make x.n.data x.n.exec with
  | .error e=>.error e
  | .ok (n,t1) =>
   match makeAll t1 r with
   | .error e=>.error e
   | .ok (l,t2)=>.ok ((told x.path,n)::l,t2)
def Dirs.put (d:Dirs)(n:Nd):Except Nat (Nat×Dirs) :=
 if treeErr n≠0 then .error (treeErr n)
 else if d.t.free.length<wX n then .error 8
 else match makeAll d.t (qE n) with
  | .error e=>.error e
  | .ok (f,t)=>.ok (d.next,{ t:=t,l:=d.l++[⟨d.next,jA n,f⟩],next:=d.next+1 })
def qN (l:List Ent)(k:Nat):Option Ent:=l.find? fun e=>e.k==k
def jV (f:List (qB×Nat))(s:qB):Option Nat:=(f.find? fun p=>p.1==s).map (·.2)
mutual
def vU (t:Tab)(f:List (qB×Nat)):Nd→qB→Except Nat Nd
 | .mk k d e ks,p =>
  if k=kFile then
   match t.read ((jV f (told p)).getD 0) with
   | .ok s=>.ok (.mk k s e ks)
   | .error c=>.error c
  else match jR t f ks p with
   | .ok l=>.ok (.mk k d e l)
   | .error c=>.error c
def jR (t:Tab)(f:List (qB×Nat)):List (qB×Nd)→qB→Except Nat (List (qB×Nd))
 | [],_=>.ok []
 | (nm,x)::r,p =>
  match vU t f x (p++47::nm) with
  | .error c=>.error c
  | .ok y=>match jR t f r p with
   | .error c=>.error c
   | .ok l=>.ok ((nm,y)::l)
end
def Dirs.get (d:Dirs)(k:Nat):Except Nat Nd :=
 match qN d.l k with
 | none=>.error 6
 | some e=>vU d.t e.f e.n []
def qK (t:Tab):List (qB×Nat)→Tab
 | []=>t
 | (_,n)::r=>qK (match t.unlink n with | .ok t1=>t1 | .error _=>t) r
def Dirs.drop (d:Dirs)(k:Nat):Except Nat Dirs :=
 match qN d.l k with
 | none=>.error 6
 | some e=>.ok { d with t:=qK d.t e.f,l:=d.l.filter fun x=>x.k != k }
def Tab.lesser (t:Tab)(n:Nat):Option Nat :=
 match t.read n with
 | .error _=>none
 | .ok s=>(List.range n).find? fun m=>match t.read m with | .error _=>false | .ok r=>r==s&&((t.at_ m).map (·.exec))==((t.at_ n).map (·.exec))
def stepOf (t:Tab):List Ent→Option (Nat×qB×Nat×Nat)
 | []=>none
 | e::r =>
  match e.f.findSome? (fun p=>(t.lesser p.2).map fun m=>(e.k,p.1,p.2,m)) with
  | some x=>some x
  | none=>stepOf t r
def qZ (f:List (qB×Nat))(s:qB)(n:Nat):List (qB×Nat):=f.map fun p=>if p.1=s then (p.1,n) else p
def Dirs.step (d:Dirs):Option Dirs :=
 match stepOf d.t d.l with
 | none=>none
 | some (k,s,was,n) =>
  let t1:=match d.t.link n with | .ok t=>t | .error _=>d.t
  let t2:=match t1.unlink was with | .ok t=>t | .error _=>t1
  some { d with t:=t2,l:=d.l.map fun e=>if e.k=k then { e with f:=qZ e.f s n } else e }
def Dirs.merge:Nat→Dirs→Nat×Dirs
 | 0,d=>(0,d)
 | f+1,d=>match d.step with | none=>(0,d) | some d1=>((Dirs.merge f d1).1+1,(Dirs.merge f d1).2)
def Dirs.weight (d:Dirs):Nat:=(d.l.map fun e=>(e.f.map (·.2)).sum).sum
def Dirs.mergeAll (d:Dirs):Nat×Dirs:=Dirs.merge d.weight d
def Tab.saved (t:Tab):Nat:=(t.l.map fun | some x=>(x.links-1)*x.blocks.length | none=>0).sum
structure Pk where
 name:qB
 refs:List qB
 k:Nat
def jQ:List Pk→List qB→List qB
 | [],out=>out
 | p::r,out=>jQ r (if out.contains p.name then insAll p.refs out else out)
def closure (l:List Pk)(names:List qB):List qB:=jQ l.reverse (insAll names [])
def nD (l:List Pk)(s:qB):List qB:=insAll ((l.filter fun p=>p.name != s&&p.refs.contains s).map (·.name)) []
def yZ (l:List Pk)(roots:List qB):List qB:=(l.reverse.filter fun p=>!(closure l roots).contains p.name).map (·.name)
def refsIn (n:Nd)(names:List qB):List qB :=
 insAll (((items n).filter fun x=>x.n.kind != kDir).flatMap fun x=>found x.n.data names) []
structure Sto where
 d:Dirs
 l:List Pk
 roots:List qB
def Sto.new (blocks:Nat):Sto:=⟨⟨⟨List.replicate blocks (List.replicate 16 0),[]⟩,[],0⟩,[],[]⟩
def Sto.find (s:Sto)(name:qB):Option Pk:=s.l.find? fun p=>p.name==name
def qT:List qB→qB
 | []=>[110,111,116,104,105,110,103]
 | [x]=>x
 | x::r=>x++32::qT r
def bOk:qB:=[111,107]
def Sto.add (s:Sto)(rest:qB):Except Nat Sto :=
 match cutAt 32 rest with
 | none=>.error 1
 | some (name,text) =>
  if isName name=false then .error 5
  else if (s.find name).isSome then .error 7
  else if 40≤s.l.length then .error 8
  else match vP text with
   | .error e=>.error e
   | .ok n =>
    let l:=refsIn n (s.l.map (·.name)++[name])
    if 20<l.length then .error 8
    else match s.d.put n with
     | .error e=>.error e
     | .ok (k,d)=>.ok { s with d:=d,l:=s.l++[⟨name,l,k⟩] }
def jG (d:Dirs)(l:List Pk):List qB→Dirs×List Pk
 | []=>(d,l)
 | nm::r =>
  match l.find? fun p=>p.name==nm with
  | none=>jG d l r
  | some p=>jG (match d.drop p.k with | .ok d1=>d1 | .error _=>d) (l.filter fun q=>q.name != nm) r
def Sto.gc (s:Sto):Nat×Sto :=
 let dead:=yZ s.l s.roots
 let x:=jG s.d s.l dead
 (dead.length,{ s with d:=x.1,l:=x.2 })
def Sto.change (s:Sto)(line:qB):Option (Except Nat (qB×Sto)) :=
 if line=[103,99] then some (.ok (dec s.gc.1,s.gc.2))
 else if line=[111,112,116] then some (.ok (dec s.d.mergeAll.1,{ s with d:=s.d.mergeAll.2 }))
 else match cutAt 32 line with
  | none=>none
  | some (word,rest) =>
   if word=[97,100,100] then some ((s.add rest).map fun x=>(bOk,x))
   else if word=[114,111,111,116] then
    some (if (s.find rest).isNone then .error 6 else if s.roots.contains rest then .error 7 else .ok (bOk,{ s with roots:=ins rest s.roots }))
   else if word=[117,110,114,111,111,116] then
    some (if s.roots.contains rest then .ok (bOk,{ s with roots:=s.roots.filter fun x=>x != rest }) else .error 6)
   else if word=[114,111,116] then
    some (match cutAt 32 rest with
     | none=>.error 1
     | some (a,b)=>match qI a 6,qI b 6 with
      | some k,some bit=>(s.d.t.rot k bit).map fun t=>(bOk,{ s with d:={ s.d with t:=t } })
      | _,_=>.error 1)
   else if word=[109,101,110,100] then
    some (match cutAt 32 rest with
     | none=>.error 1
     | some (a,data)=>match qI a 6 with
      | some n=>(s.d.t.mend n data).map fun t=>(bOk,{ s with d:={ s.d with t:=t } })
      | none=>.error 1)
   else none
def Sto.tree (s:Sto)(name:qB):Except Nat Nd :=
 match s.find name with
 | none=>.error 6
 | some p=>s.d.get p.k
def pT (x:Nd):qB :=
 if x.kind=kFile then x.data else if x.kind=kLink then 45::62::x.data else qT (x.kids.map (·.1))
def Sto.read (s:Sto)(rest:qB):Except Nat qB :=
 match cutAt 32 rest with
 | none=>.error 1
 | some (name,p) =>
  match s.tree name with
  | .error e=>.error e
  | .ok n=>(getPath n p).map pT
def Sto.where_ (s:Sto)(n:Nat):qB :=
 qT (s.l.flatMap fun p=>match qN s.d.l p.k with
  | none=>[]
  | some e=>(e.f.filter fun q=>q.2==n).map fun q=>p.name++q.1)
def Sto.tell (s:Sto)(line:qB):Except Nat qB :=
 if line=[108,105,115,116] then .ok (qT (s.l.map (·.name)))
 else if line=[114,111,111,116,115] then .ok (qT s.roots)
 else if line=[102,114,101,101] then .ok (dec s.d.t.free.length)
 else if line=[115,97,118,101,100] then .ok (dec s.d.t.saved)
 else if line=[115,99,97,110] then .ok (qT (s.d.t.scan.map dec))
 else match cutAt 32 line with
  | none=>.error 1
  | some (word,rest) =>
   if word=[114,101,97,100] then s.read rest
   else if word=[114,101,102,115] then (match s.find rest with | none=>.error 6 | some p=>.ok (qT p.refs))
   else if word=[117,115,101,114,115] then (if (s.find rest).isNone then .error 6 else .ok (qT (nD s.l rest)))
   else if word=[110,101,101,100] then (if (s.find rest).isNone then .error 6 else .ok (qT (closure s.l [rest])))
   else if word=[119,104,101,114,101] then (match qI rest 6 with | none=>.error 1 | some n=>.ok (s.where_ n))
   else .error 1
structure Tape where
 b:qB
 off:Bool
 cut:Option Nat
def record (s:qB):qB:=dec s.length++58::(s++[10,46])
def Tape.setCut (t:Tape)(n:Nat):Except Nat Tape:=if t.off then .error 13 else .ok { t with cut:=some n }
def Tape.append (t:Tape)(s:qB):Nat×Tape :=
 if 20000<s.length then (2,t)
 else if 1048576<t.b.length+(record s).length then (8,t)
 else if t.off then (13,t)
 else match t.cut with
  | none=>(0,{ t with b:=t.b++record s })
  | some n=>if n<(record s).length then (13,{ t with b:=t.b++(record s).take n,off:=true }) else (0,{ t with b:=t.b++record s,cut:=some (n-(record s).length) })
def vY (b:qB):Option qB :=
 match cutAt 58 b with
 | none=>none
 | some (d,rest) =>
  match qI d 9 with
  | none=>none
  | some n=>if 20000<n∨rest.length<n+2∨(rest.drop n).take 2≠[10,46] then none else some (rest.take n)
def qU:Nat→qB→List qB×Nat
 | 0,_=>([],0)
 | f+1,b =>
  match vY b with
  | none=>([],0)
  | some s=>(s::(qU f (b.drop (record s).length)).1,(record s).length+(qU f (b.drop (record s).length)).2)
def Tape.recover (t:Tape):List qB×Tape :=
 let x:=qU (t.b.length+1) t.b
 (x.1,⟨t.b.take x.2,false,none⟩)
def yH (s:Sto)(t:Tape)(line:qB):Except Nat qB×Sto×Tape :=
 match s.change line with
 | none=>(s.tell line,s,t)
 | some (.error e)=>(.error e,s,t)
 | some (.ok (a,s1)) =>
  if (t.append line).1=0 then (.ok a,s1,(t.append line).2) else (.error (t.append line).1,s,(t.append line).2)
def replay:Nat→Sto→List qB→Except (Nat×Nat) Sto
 | _,s,[]=>.ok s
 | i,s,line::r =>
  match s.change line with
  | some (.ok (_,s1))=>replay (i+1) s1 r
  | some (.error e)=>.error (i,e)
  | none=>match s.tell line with
   | .error e=>.error (i,e)
   | .ok _=>replay (i+1) s r
structure yX (t:Tab):Prop where
 whole:∀ b∈t.disk,b.length=16
 nodup:∀ n x,t.at_ n=some x→x.blocks.Nodup
 inside:∀ n x,t.at_ n=some x→∀ k∈x.blocks,k<t.disk.length
 need:∀ n x,t.at_ n=some x→x.blocks.length=jL x.bytes
 links:∀ n x,t.at_ n=some x→1≤x.links
 bytes:∀ n x,t.at_ n=some x→x.bytes≤2000
 apart:∀ n m x y k,t.at_ n=some x→t.at_ m=some y→k∈x.blocks→k∈y.blocks→n=m
theorem nH {t:Tab}{n:Nat}{x:Ino}(h:t.at_ n=some x):n<t.l.length:=by
 unfold Tab.at_ at h
 rcases zu n t.l.length with h2 | h2
 ·exact h2
 ·rw[List.getElem?_eq_none h2] at h;cases h
theorem jE {t:Tab}{k:Nat}:t.isUsed k=true↔∃ n x,t.at_ n=some x∧k∈x.blocks:=by
 unfold Tab.isUsed Tab.at_;rw[List.any_eq_true];constructor
 ·rintro ⟨o,ho,h⟩
  cases o with
  | none=>cases h
  | some x =>
   obtain⟨n,hn⟩:=List.getElem?_of_mem ho;exact⟨n,x,by rw[hn];rfl,by simpa using h⟩
 ·rintro ⟨n,x,h,hk⟩;refine⟨some x,?_,by simpa using hk⟩
  cases ho:t.l[n]? with
  | none=>rw[ho] at h;cases h
  | some o =>
   rw[ho] at h;have e:o=some x:=h;subst e;exact List.mem_of_getElem? ho
theorem qLv {t:Tab}{k:Nat}:k∈t.free↔k<t.disk.length∧t.isUsed k=false:=by
 unfold Tab.free;rw[zZ,List.mem_range];simp
theorem qBz (t:Tab):t.free.Nodup:=List.Pairwise.filter _ List.nodup_range
theorem wC:∀ l:List (Option Ino),firstFree l≤l.length
 | []=>by simp[firstFree]
 | none::_=>by simp[firstFree]
 | some _::r=>by have:=wC r;simp[firstFree];omega
theorem qAZ:∀ l:List (Option Ino),(l[firstFree l]?).join=none
 | []=>rfl
 | none::_=>rfl
 | some _::r=>by simpa[firstFree] using qAZ r
theorem qAG:∀ (l:List (Option Ino)) (n:Nat),n<firstFree l→((l[n]?).join).isSome=true
 | [],n,h=>by simp[firstFree] at h
 | none::_,n,h=>by simp[firstFree] at h
 | some x::r,0,_=>rfl
 | some x::r,n+1,h=>by simpa using qAG r n (by simpa[firstFree] using h)
theorem qLj (l:List (Option Ino))(n:Nat)(x:Ino)(hn:n≤l.length)(m:Nat):((putAt l n x)[m]?).join=if m=n then some x else (l[m]?).join:=by
 unfold putAt;split
 ·rename_i h
  rw[List.getElem?_set];by_cases e:n=m
  ·subst e;simp[h]
  ·rw[zL1 e,zL1 (Ne.symm e)]
 ·have e:n=l.length:=by omega
  subst e
  rcases Nat.lt_trichotomy m l.length with h | h | h
  ·rw[List.getElem?_append_left h,zL1 (by omega)]
  ·subst h;simp
  ·rw[zL1 (by omega),List.getElem?_eq_none (by simp;omega),List.getElem?_eq_none (by omega)]
theorem uU (l:List (Option Ino))(n:Nat)(o:Option Ino)(hn:n<l.length)(m:Nat):((l.set n o)[m]?).join=if m=n then o else (l[m]?).join:=by
 rw[List.getElem?_set];by_cases e:n=m
 ·subst e;simp[hn]
 ·rw[zL1 e,zL1 (Ne.symm e)]
theorem jX:∀ (ks:List Nat) (disk:List qB) (s:qB),(kG disk ks s).length=disk.length
 | [],_,_=>rfl
 | k::r,disk,s=>by simp[kG,jX r]
theorem qCV (s:qB)(h:s.length≤16):(dK s).length=16:=by simp[dK];omega
theorem qAA:∀ (ks:List Nat) (disk:List qB) (s:qB),(∀ b∈disk,b.length=16)→∀ b∈kG disk ks s,b.length=16
 | [],disk,s,h=>h
 | k::r,disk,s,h=>by
  refine qAA r _ _ fun b hb=>?_
  rcases List.mem_or_eq_of_mem_set hb with h2 | h2
  ·exact h b h2
  ·rw[h2];exact qCV _ (by simp;omega)
theorem qAF:∀ (ks:List Nat) (disk:List qB) (s:qB) (k:Nat),k∉ks→(kG disk ks s)[k]?=disk[k]?
 | [],_,_,_,_=>rfl
 | j::r,disk,s,k,h=>by
  simp only[zY,not_or] at h;rw[kG,qAF r _ _ k h.2,List.getElem?_set_ne (Ne.symm h.1)]
theorem qC5:∀ (ks:List Nat) (disk:List qB) (s:qB),ks.Nodup→(∀ k∈ks,k<disk.length)→ks.length=jL s.length →
  ((ks.map fun k=>(kG disk ks s).getD k []).flatten).take s.length=s
 | [],disk,s,_,_,hl=>by
  have:s.length=0:=by simp[jL] at hl;omega
  have:s=[]:=zH this;subst this;rfl
 | k::r,disk,s,hn,hi,hl=>by
  obtain⟨h1,h2⟩:=List.nodup_cons.1 hn;have hlen:s.length≥1:=by simp[jL] at hl;omega
  have e1:(kG disk (k::r) s).getD k []=dK (s.take 16):=by
   rw[List.getD_eq_getElem?_getD,kG,qAF r _ _ k h1,List.getElem?_set_self (hi k (by simp))];rfl
  have ih:=qC5 r (disk.set k (dK (s.take 16))) (s.drop 16) h2 (fun j hj=>by simp;exact hi j (by simp[hj])) (by simp[jL] at hl ⊢;omega);rw[zV,List.flatten_cons,e1];rw[show (r.map fun j=>(kG disk (k::r) s).getD j [])=r.map fun j=>(kG (disk.set k (dK (s.take 16))) r (s.drop 16)).getD j [] from rfl]
  rcases zu s.length 17 with h17 | h17
  ·have e2:s.take 16=s:=zm (by omega);rw[e2];have:(dK s).length=16:=qCV _ (by omega);rw[zj (by omega)];simp[dK]
  ·have e3:dK (s.take 16)=s.take 16:=by simp[dK];omega
   rw[e3] at ih ⊢;rw[List.take_append,show (s.take 16).length=16 by simp;omega,zm (by simp;omega)];have e4:s.length-16=(s.drop 16).length:=by simp
   rw[e4,ih,List.take_append_drop]
theorem qKi {t t':Tab}{x:Ino}(h:∀ k∈x.blocks,t'.disk[k]?=t.disk[k]?):t'.raw x=t.raw x:=by
 unfold Tab.raw;have:(x.blocks.map fun k=>t'.disk.getD k [])=x.blocks.map fun k=>t.disk.getD k []:=by
  apply List.map_congr_left;intro k hk;rw[List.getD_eq_getElem?_getD,List.getD_eq_getElem?_getD,h k hk]
 rw[this]
section make
variable {t t':Tab}{data:qB}{exec:Bool}{n:Nat}
theorem yP (h:t.make data exec=.ok (n,t')):data.length≤2000∧jL data.length≤t.free.length∧n=firstFree t.l ∧
  t'={ disk:=kG t.disk (t.free.take (jL data.length)) data,l:=putAt t.l (firstFree t.l) ⟨data.length,1,exec,t.free.take (jL data.length),crc data⟩ }:=by
 unfold Tab.make at h;split at h
 ·cases h
 ·split at h
  ·cases h
  ·injection h with h
   injection h with h1 h2
   exact⟨by omega,by omega,h1.symm,h2.symm⟩
theorem mV (h:t.make data exec=.ok (n,t'))(m:Nat):t'.at_ m=if m=n then some ⟨data.length,1,exec,t.free.take (jL data.length),crc data⟩ else t.at_ m:=by
 obtain⟨_,_,rfl,rfl⟩:=yP h;exact qLj _ _ _ (wC _) m
theorem pK (h:t.make data exec=.ok (n,t')):t.at_ n=none:=by
 obtain⟨_,_,rfl,_⟩:=yP h;exact qAZ _
theorem gN {k:Nat}{m:Nat}(hk:k∈t.free.take m):k<t.disk.length∧t.isUsed k=false:=qLv.1 (List.mem_of_mem_take hk)
theorem qKd (ht:yX t)(h:t.make data exec=.ok (n,t')):yX t':=by
 have hat:=mV h;have hwas:=pK h;obtain⟨hd,hf,en,et⟩:=yP h;have hdl:t'.disk.length=t.disk.length:=by rw[et];exact jX _ _ _
 have hnew:∀ m x,t.at_ m=some x→∀ k∈x.blocks,k∉t.free.take (jL data.length):=by
  intro m x hx k hk hk2;have:=(gN hk2).2;rw[jE.2 ⟨m,x,hx,hk⟩] at this
  cases this
 constructor
 ·rw[et];exact qAA _ _ _ ht.whole
 ·intro m x hx;rw[hat] at hx;split at hx
  ·injection hx with hx;subst hx;exact((List.take_sublist _ _).nodup (qBz t))
  ·exact ht.nodup m x hx
 ·intro m x hx k hk;rw[hat] at hx;rw[hdl];split at hx
  ·injection hx with hx;subst hx;exact(gN hk).1
  ·exact ht.inside m x hx k hk
 ·intro m x hx;rw[hat] at hx;split at hx
  ·injection hx with hx;subst hx;simp;omega
  ·exact ht.need m x hx
 ·intro m x hx;rw[hat] at hx;split at hx
  ·injection hx with hx;subst hx;simp
  ·exact ht.links m x hx
 ·intro m x hx;rw[hat] at hx;split at hx
  ·injection hx with hx;subst hx;exact hd
  ·exact ht.bytes m x hx
 ·intro a b x y k hx hy hk1 hk2;rw[hat] at hx hy;by_cases ha:a=n<;>by_cases hb:b=n
  ·rw[ha,hb]
  ·rw[zM1 ha] at hx;rw[zL1 hb] at hy;injection hx with hx
   subst hx;exact absurd hk1 (hnew b y hy k hk2)
  ·rw[zL1 ha] at hx;rw[zM1 hb] at hy;injection hy with hy
   subst hy;exact absurd hk2 (hnew a x hx k hk1)
  ·rw[zL1 ha] at hx;rw[zL1 hb] at hy;exact ht.apart a b x y k hx hy hk1 hk2
theorem qLc (ht:yX t)(h:t.make data exec=.ok (n,t')):t'.read n=.ok data:=by
 have hat:=mV h n;obtain⟨hd,hf,en,et⟩:=yP h;rw[zM1 rfl] at hat;unfold Tab.read;rw[hat];have hr:t'.raw ⟨data.length,1,exec,t.free.take (jL data.length),crc data⟩=data:=by
  unfold Tab.raw;rw[et];exact qC5 _ _ _ ((List.take_sublist _ _).nodup (qBz t)) (fun k hk=>(gN hk).1) (by simp;omega)
 simp only[hr];simp
theorem qCR (ht:yX t)(h:t.make data exec=.ok (n,t')){m:Nat}(hm:m≠n):t'.read m=t.read m:=by
 have hat:=mV h m;obtain⟨hd,hf,en,et⟩:=yP h;rw[zL1 hm] at hat;unfold Tab.read;rw[hat]
 cases hx:t.at_ m with
 | none=>rfl
 | some x =>
  have hr:t'.raw x=t.raw x:=qKi fun k hk=>by
   rw[et];refine qAF _ _ _ _ fun hk2=>?_
   have:=(gN hk2).2;rw[jE.2 ⟨m,x,hx,hk⟩] at this
   cases this
  simp only[hr]
theorem qCg (ht:yX t)(h:t.make data exec=.ok (n,t')):t'.free.length+jL data.length=t.free.length:=by
 have hat:=mV h;have hwas:=pK h;obtain⟨hd,hf,en,et⟩:=yP h;have hdl:t'.disk.length=t.disk.length:=by rw[et];exact jX _ _ _
 have hu:∀ k,k<t.disk.length→(t'.isUsed k=true↔t.isUsed k=true∨k∈t.free.take (jL data.length)):=by
  intro k hk;rw[jE,jE];constructor
  ·rintro ⟨m,x,hx,hkx⟩;rw[hat] at hx;split at hx
   ·injection hx with hx;subst hx;exact .inr hkx
   ·exact .inl ⟨m,x,hx,hkx⟩
  ·rintro (⟨m,x,hx,hkx⟩ | hk2)
   ·refine⟨m,x,?_,hkx⟩;rw[hat,zL1 (fun e=>by rw[e,hwas] at hx;cases hx)];exact hx
   ·exact⟨n,_,by rw[hat,zM1 rfl],hk2⟩
 have e:t'.free=t.free.drop (jL data.length):=by
  have hsplit:=List.take_append_drop (jL data.length) t.free;have hnd:=qBz t;rw[← hsplit] at hnd;have hdis:=(List.nodup_append.1 hnd).2.2;have e1:t'.free=t.free.filter fun k=>!(t.free.take (jL data.length)).contains k:=by
   unfold Tab.free;rw[hdl,List.filter_filter];apply List.filter_congr;intro k hk;have:=hu k (by simpa using hk)
   cases h1:t'.isUsed k<;>cases h2:t.isUsed k<;>simp[h1,h2] at this ⊢<;>simpa[Tab.free] using this
  rw[e1]
  conv=>lhs;rw[← hsplit]
  rw[List.filter_append,hsplit];have a1:(t.free.take (jL data.length)).filter (fun k=>!(t.free.take (jL data.length)).contains k)=[]:=by
   rw[List.filter_eq_nil_iff];intro k hk;simp[hk]
  have a2:(t.free.drop (jL data.length)).filter (fun k=>!(t.free.take (jL data.length)).contains k)=t.free.drop (jL data.length):=by
   rw[List.filter_eq_self];intro k hk;have:k∉t.free.take (jL data.length):=fun hk2=>hdis k hk2 k hk rfl
   simpa using this
  rw[a1,a2,zh]
 rw[e,List.length_drop];omega
theorem qID (h1:data.length≤2000)(h2:jL data.length≤t.free.length):∃ n t',t.make data exec=.ok (n,t'):=by
 unfold Tab.make;rw[zL1 (by omega),zL1 (by omega)];exact⟨_,_,rfl⟩
end make
end Stl
