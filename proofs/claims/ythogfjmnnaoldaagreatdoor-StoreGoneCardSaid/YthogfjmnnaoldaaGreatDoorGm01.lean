/- Texts of this claim, merged: ScanPure, TreePure, RisePure, ModelPure. -/
import Derived.Below
import Derived.Handy
import Derived.Laws.OwnMore
import Derived.Lib.Hide
import Derived.LoopTactic
import Derived.WalkKit
set_option maxHeartbeats 16000000
set_option maxRecDepth 1000000
set_option linter.all false
theorem Hh {p:Prop} (h:p):Go.RowKit.Hid p:=Go.Lib.hid h
abbrev zB:=@Go.RowKit.Below.heap_setCell
abbrev zC:=@Go.RowKit.Below.refl
abbrev zD:=@Bool.and_eq_true
abbrev zE:=@List.cons.injEq
abbrev zF:=@List.cons_append
abbrev zG:=@List.drop_eq_getElem_cons
abbrev zH:=@List.drop_of_length_le
abbrev zI:=@List.eq_nil_of_length_eq_zero
abbrev zJ:=@List.filter_cons
abbrev zK:=@List.filter_cons_of_neg
abbrev zL:=@List.filter_cons_of_pos
abbrev zM:=@List.getElem?_eq_getElem
abbrev zN:=@List.getElem?_eq_some_iff
abbrev zO:=@List.getElem?_map
abbrev zP:=@List.getElem_mem
abbrev zQ:=@List.length_append
abbrev zS:=@List.length_cons
abbrev zT:=@List.length_eq_zero_iff
abbrev zU:=@List.length_filter_le
abbrev zV:=@List.length_map
abbrev zW:=@List.map_append
abbrev zX:=@List.map_cons
abbrev zY:=@List.map_map
abbrev zZ:=@List.mem_append
abbrev za:=@List.mem_cons
abbrev zb:=@List.mem_filter
abbrev ze:=@List.mem_flatMap
abbrev zf:=@List.mem_map
abbrev zg:=@List.mem_map_of_mem
abbrev zh:=@List.mem_of_find?_eq_some
abbrev zi:=@List.mem_singleton
abbrev zj:=@List.nil_append
abbrev zk:=@List.pairwise_cons
abbrev zm:=@List.take_append_of_le_length
abbrev zn:=@List.take_length
abbrev zo:=@List.take_of_length_le
abbrev zq:=@List.take_succ_eq_append_getElem
abbrev zr:=@Nat.le_refl
abbrev zt:=@Nat.le_trans
abbrev zu:=@Nat.lt_irrefl
abbrev zv:=@Nat.lt_of_lt_of_le
abbrev zw:=@Nat.lt_or_ge
abbrev zx:=@Nat.zero_add
abbrev zy:=@Nat.zero_le
abbrev zz:=@Option.getD_some
abbrev zA1:=@Option.isSome_iff_exists
abbrev zB1:=@Option.map_some
abbrev zC1:=@Option.some.injEq
abbrev zD1:=@Go.Value.slice.injEq
abbrev zE1:=@Go.World.cell?_of_block
abbrev zF1:=@Go.World.frozen?_of_block
abbrev zG1:=@Go.World.ownsRow_nil
abbrev zH1:=@beq_eq_false_iff_ne
abbrev zI1:=@Go.bodyPost_ret
abbrev zJ1:=@Go.callsIn_wide
abbrev zK1:=@Go.cell_of_row
abbrev zL1:=@Go.heap_alloc_new
abbrev zM1:=@if_neg
abbrev zN1:=@if_pos
abbrev zO1:=@Go.lt_of_block
abbrev zP1:=@Go.ownsRow_setCell_other
namespace Stl
def isLetter (c:UInt8):Bool:=(97≤c&&c≤122)||(48≤c&&c≤57)||c==46||c==45
def word (s:List UInt8):List UInt8:=s.takeWhile isLetter
def isName (s:List UInt8):Bool:=decide (1≤s.length)&&decide (s.length≤12)&&s.all isLetter&&s != [46]&&s != [46,46]
def qIc:List UInt8→List (List UInt8)
 | []=>[]
 | c::r=>if c==35 then word r::qIc r else qIc r
theorem qI9 {s:List UInt8} (h:isName s=true):s.all isLetter=true:=by
 simp [isName] at h
 simpa using h.1.1.2
theorem qKe {s:List UInt8} (h:isName s=true):1≤s.length:=by
 simp [isName] at h
 have:=h.1.1.1.1
 omega
theorem qDT {s:List UInt8} (h:isName s=true):s.length≤12:=by
 simp [isName] at h
 have:=h.1.1.1.2
 omega
theorem word_take (s:List UInt8):s.take (word s).length=word s:=by
 induction s with
 | nil=>rfl
 | cons c r ih =>
  cases hc:isLetter c
  ·simp [word,List.takeWhile_cons,hc]
  ·have:word (c::r)=c::word r:=by simp [word,List.takeWhile_cons,hc]
   rw [this]
   simpa using ih
theorem word_length_le (s:List UInt8):(word s).length≤s.length:=by
 have:=congrArg List.length (word_take s)
 simp at this
 omega
def mentsAt:Nat→List UInt8→List (Nat×List UInt8)
 | _,[]=>[]
 | k,c::r=>if c==35 then (k+1,word r)::mentsAt (k+1) r else mentsAt (k+1) r
theorem mentsAt_words:∀ (k:Nat) (s:List UInt8),(mentsAt k s).map (·.2)=qIc s
 | _,[]=>rfl
 | k,c::r=>by
  unfold mentsAt qIc
  split<;>simp [mentsAt_words (k+1) r]
theorem mentsAt_length:∀ (k:Nat) (s:List UInt8),(mentsAt k s).length≤s.length
 | _,[]=>by simp [mentsAt]
 | k,c::r=>by
  have:=mentsAt_length (k+1) r
  unfold mentsAt
  split<;>simp only [zS]<;>omega
inductive Nd where
 | mk (kind data:List UInt8) (exec:Bool) (kids:List (List UInt8×Nd))
def Nd.kind:Nd→List UInt8 | .mk k _ _ _=>k
def Nd.data:Nd→List UInt8 | .mk _ d _ _=>d
def Nd.exec:Nd→Bool | .mk _ _ e _=>e
def Nd.kids:Nd→List (List UInt8×Nd) | .mk _ _ _ ks=>ks
structure It where
 path:List UInt8
 deep:Nat
 n:Nd
section
variable (own:Nd→Nat)
mutual
def chk:Nd→Nat→Nat→Nat×Nat
 | .mk k d e ks,deep,c=>if 8<deep then (9,c+1) else if 200<c+1 then (8,c+1) else if own (.mk k d e ks)=0 then chkL ks (deep+1) (c+1) else (own (.mk k d e ks),c+1)
def chkL:List (List UInt8×Nd)→Nat→Nat→Nat×Nat
 | [],_,c=>(0,c)
 | (_,x)::r,deep,c=>if (chk x deep c).1=0 then chkL r deep (chk x deep c).2 else chk x deep c
end
def qO9 (most:Nat) (x:It):List It:=(x.n.kids.take (most+1)).map fun p=>⟨x.path++47::p.1,x.deep+1,p.2⟩
def pre (most deep:Nat):Nat→List It→List It
 | 0,l=>l
 | _,[]=>[]
 | f+1,x::r=>x::pre most deep f (if deep<x.deep then r else qO9 most x++r)
theorem qOn (n:Nd) (deep c:Nat) (h:200≤c):(chk own n deep c).1≠0:=by
 cases n
 unfold chk
 split
 ·simp
 ·rw [zN1 (by omega)];simp
theorem qQp (n:Nd) (deep c:Nat) (h:(chk own n deep c).1=0):c<200:=by
 rcases zw c 200 with h2 | h2
 ·exact h2
 ·exact absurd h (qOn own n deep c h2)
theorem qJR:∀ (l:List (List UInt8×Nd)) (deep c:Nat),c≤200→(chkL own l deep c).1=0→(chkL own l deep c).2≤200
 | [],_,c,hc,_=>by simpa [chkL] using hc
 | (_,x)::r,deep,c,hc,h=>by
  unfold chkL at h ⊢
  by_cases h1:(chk own x deep c).1=0
  ·rw [zN1 h1] at h ⊢
   refine qJR r deep _ ?_ h
   rcases zw 200 (chk own x deep c).2 with h2 | h2
   ·exfalso
    cases x with
    | mk k d e ks =>
     unfold chk at h1 h2
     split at h1
     ·simp at h1
     ·rename_i hd
      rw [zM1 hd] at h2
      split at h1
      ·simp at h1
      ·rename_i hd2
       rw [zM1 hd2] at h2
       split at h1
       ·rename_i hd3
        rw [zN1 hd3] at h2
        have:=qJR ks (deep+1) (c+1) (by omega) h1
        omega
       ·rename_i hd3
        exact hd3 h1
   ·exact h2
  ·rw [zM1 h1] at h
   exact absurd h h1
theorem chk_two_le (x:Nd) (deep c:Nat) (h1:(chk own x deep c).1=0):(chk own x deep c).2≤200:=by
 have hc:=qQp own x deep c h1
 have h:=qJR own [([],x)] deep c (by omega)
 simp only [chkL] at h
 rw [zN1 h1] at h
 exact h rfl
mutual
def flat:Nd→List UInt8→Nat→List It
 | .mk k d e ks,path,deep=>⟨path,deep,.mk k d e ks⟩::flatL ks path (deep+1)
def flatL:List (List UInt8×Nd)→List UInt8→Nat→List It
 | [],_,_=>[]
 | (nm,x)::r,path,deep=>flat x (path++47::nm) deep++flatL r path deep
end
theorem qJ5:∀ (l:List (List UInt8×Nd)) (path:List UInt8) (deep:Nat),flatL l path deep=(l.map fun p=>(⟨path++47::p.1,deep,p.2⟩:It)).flatMap fun x=>flat x.n x.path x.deep
 | [],_,_=>rfl
 | (nm,x)::r,path,deep=>by simp [flatL,qJ5 r path deep]
theorem qPN (x:It):flat x.n x.path x.deep=x::(x.n.kids.map fun p=>(⟨x.path++47::p.1,x.deep+1,p.2⟩:It)).flatMap fun x=>flat x.n x.path x.deep:=by
 obtain ⟨p,d,n⟩:=x
 cases n
 simp [flat,qJ5,Nd.kids]
end
abbrev Bytes:=List UInt8
theorem blt_irrefl (a:Bytes):¬ a<a:=List.lt_irrefl a
theorem qF9 {a b c:Bytes} (h:a<b) (k:b<c):a<c:=List.lt_trans h k
theorem blt_tri (a b:Bytes):a<b∨a=b∨b<a:=by
 rcases Decidable.em (a<b) with h | h
 ·exact .inl h
 ·rcases Decidable.em (b<a) with h2 | h2
  ·exact .inr (.inr h2)
  ·exact .inr (.inl (List.le_antisymm (List.not_lt.1 h2) (List.not_lt.1 h)))
def Rise (l:List Bytes):Prop:=l.Pairwise (·<·)
def ins (s:Bytes):List Bytes→List Bytes
 | []=>[s]
 | x::r=>if x<s then x::ins s r else if x=s then x::r else s::x::r
theorem qG4 (s y:Bytes):∀ l:List Bytes,y∈ins s l↔y=s∨y∈l
 | []=>by simp [ins]
 | x::r=>by
  unfold ins
  split
  ·simp only [za,qG4 s y r]
   constructor
   ·rintro (h | h | h)<;>simp [h]
   ·rintro (h | h | h)<;>simp [h]
  ·split
   ·rename_i h;subst h;simp
   ·simp
theorem qHu (s:Bytes):∀ l:List Bytes,Rise l→Rise (ins s l)
 | [],_=>by simp [ins,Rise]
 | x::r,h=>by
  unfold Rise at h
  obtain ⟨h1,h2⟩:=zk.1 h
  unfold ins
  split
  ·rename_i hx
   refine zk.2 ⟨fun y hy=>?_,qHu s r h2⟩
   rcases (qG4 s y r).1 hy with rfl | hy
   ·exact hx
   ·exact h1 y hy
  ·split
   ·exact h
   ·rename_i hx hne
    have hs:s<x:=by
     rcases blt_tri x s with h3 | h3 | h3
     ·exact absurd h3 hx
     ·exact absurd h3 hne
     ·exact h3
    refine zk.2 ⟨fun y hy=>?_,h⟩
    rcases za.1 hy with rfl | hy
    ·exact hs
    ·exact qF9 hs (h1 y hy)
theorem qKh:∀ (a b:List Bytes),Rise a→Rise b→(∀ y,y∈a↔y∈b)→a=b
 | [],[],_,_,_=>rfl
 | [],y::b,_,_,h=>by have:=(h y).2 (by simp);cases this
 | x::a,[],_,_,h=>by have:=(h x).1 (by simp);cases this
 | x::a,y::b,ha,hb,h=>by
  obtain ⟨a1,a2⟩:=zk.1 ha
  obtain ⟨b1,b2⟩:=zk.1 hb
  have e:x=y:=by
   rcases za.1 ((h x).1 (by simp)) with e | hx
   ·exact e
   ·rcases za.1 ((h y).2 (by simp)) with e | hy
    ·exact e.symm
    ·exact absurd (qF9 (a1 y hy) (b1 x hx)) (blt_irrefl x)
  subst e
  have ih:a=b:=qKh a b a2 b2 (fun z=>by
   constructor
   ·intro hz
    rcases za.1 ((h z).1 (by simp [hz])) with e | hz2
    ·subst e;exact absurd (a1 z hz) (blt_irrefl z)
    ·exact hz2
   ·intro hz
    rcases za.1 ((h z).2 (by simp [hz])) with e | hz2
    ·subst e;exact absurd (b1 z hz) (blt_irrefl z)
    ·exact hz2)
  rw [ih]
def insAll (l acc:List Bytes):List Bytes:=l.foldl (fun a s=>ins s a) acc
theorem mem_insAll (y:Bytes):∀ (l acc:List Bytes),y∈insAll l acc↔y∈l∨y∈acc
 | [],acc=>by simp [insAll]
 | s::r,acc=>by
  have h:=mem_insAll y r (ins s acc)
  unfold insAll at h ⊢
  rw [List.foldl_cons,h,qG4]
  simp only [za]
  constructor
  ·rintro (h | h | h)<;>simp [h]
  ·rintro ((h | h) | h)<;>simp [h]
theorem rise_insAll:∀ (l acc:List Bytes),Rise acc→Rise (insAll l acc)
 | [],acc,h=>h
 | s::r,acc,h=>rise_insAll r (ins s acc) (qHu s acc h)
theorem rise_nil:Rise []:=List.Pairwise.nil
theorem qL7 {l m:List Bytes} (hm:Rise m) (h:∀ y,y∈m↔y∈l):m=insAll l [] :=
 qKh _ _ hm (rise_insAll _ _ rise_nil) fun y=>by rw [h,mem_insAll];simp
theorem qGM (s:Bytes):∀ l:List Bytes,(ins s l).length≤l.length+1
 | []=>by simp [ins]
 | x::r=>by
  have:=qGM s r
  unfold ins
  split
  ·simp only [zS];omega
  ·split<;>simp
theorem qD9:∀ (l acc:List Bytes),(insAll l acc).length≤acc.length+l.length
 | [],acc=>by simp [insAll]
 | s::r,acc=>by
  have h:=qD9 r (ins s acc)
  have:=qGM s acc
  unfold insAll at h ⊢
  simp only [List.foldl_cons,zS]
  omega
def found (s:Bytes) (names:List Bytes):List Bytes:=insAll ((qIc s).filter fun w=>isName w&&names.contains w) []
def kFile:Bytes:=[102,105,108,101]
def kDir:Bytes:=[100,105,114]
def kLink:Bytes:=[108,105,110,107]
def qCM:List Bytes→Bool
 | a::b::r=>decide (a<b)&&qCM (b::r)
 | _=>true
def ownErrP (k d:Bytes) (e:Bool) (nms:List Bytes):Nat :=
 if k≠kFile∧k≠kDir∧k≠kLink then 4
 else if (k≠kDir∧nms≠[])∨(k≠kFile∧e=true)∨(k=kDir∧d≠[]) then 3
 else if 2000<d.length∨(k=kLink∧(d.length<1∨40<d.length)) then 2
 else if k=kLink∧d.any (fun c=>decide (c<33)||decide (126<c))=true then 1
 else if nms.all isName=false then 5
 else if qCM nms=false then 10
 else 0
def ownErr (n:Nd):Nat:=ownErrP n.kind n.data n.exec (n.kids.map (·.1))
def treeErr (n:Nd):Nat:=(chk ownErr n 0 0).1
def told (p:Bytes):Bytes:=if p=[] then [47] else p
def items (n:Nd):List It:=if treeErr n=0 then flat n [] 0 else []
def qAx (n:Nd):List Bytes:=((items n).filter fun x=>x.n.kind==kFile).map fun x=>told x.path
mutual
def qCQ:Nd→Nd→Bool
 | .mk k d e ks,.mk k' d' e' ks'=>k==k'&&d==d'&&e==e'&&qAY ks ks'
def qAY:List (Bytes×Nd)→List (Bytes×Nd)→Bool
 | [],[]=>true
 | (a,x)::r,(b,y)::s=>a==b&&qCQ x y&&qAY r s
 | _,_=>false
end
mutual
theorem qId:∀ a b:Nd,qCQ a b=true↔a=b
 | .mk k d e ks,.mk k' d' e' ks'=>by
  have:=qDO ks ks'
  simp only [qCQ,zD,beq_iff_eq,this,Nd.mk.injEq,and_assoc]
theorem qDO:∀ a b:List (Bytes×Nd),qAY a b=true↔a=b
 | [],[]=>by simp [qAY]
 | [],_::_=>by simp [qAY]
 | _::_,[]=>by simp [qAY]
 | (a,x)::r,(b,y)::s=>by
  have h1:=qId x y
  have h2:=qDO r s
  simp only [qAY,zD,beq_iff_eq,h1,h2,zE,Prod.mk.injEq]
end
def isDigit (c:UInt8):Bool:=48≤c&&c≤57
def qCd (s:Bytes):Nat:=s.foldl (fun n c=>10*n+(c.toNat-48)) 0
def numberOf (s:Bytes) (most:Nat):Option Nat :=
 if s.length<1∨most<s.length∨(1<s.length∧s.head?=some 48)∨s.all isDigit=false then none else some (qCd s)
def qQo:Nat→Nat→Bytes
 | 0,_=>[]
 | f+1,n=>if n<10 then [48+n.toUInt8] else qQo f (n/10)++[48+(n%10).toUInt8]
def dec (n:Nat):Bytes:=qQo (n+1) n
def cutAt (by_:UInt8):Bytes→Option (Bytes×Bytes)
 | []=>none
 | c::r=>if c=by_ then some ([],r) else (cutAt by_ r).map fun p=>(c::p.1,p.2)
def qAj (by_:UInt8):Bytes→List Bytes
 | []=>[[]]
 | c::r=>if c=by_ then []::qAj by_ r else match qAj by_ r with | []=>[[c]] | x::l=>(c::x)::l
def qAT (s:Bytes):Option (Nat×Bytes) :=
 match cutAt 58 (s.take 7) with
 | none=>none
 | some (d,_)=>(numberOf d 6).map fun n=>(n,s.drop (d.length+1))
def qAk (s:Bytes):Option (Bytes×Bytes) :=
 match qAT s with
 | none=>none
 | some (n,r)=>if r.length<n then none else some (r.take n,r.drop n)
abbrev Rd (α:Type):=Except Nat (α×Bytes×Nat)
def qBa (rd:Bytes→Nat→Rd Nd):Nat→Bytes→Nat→Rd (List (Bytes×Nd))
 | 0,s,n=>.ok ([],s,n)
 | k+1,s,n =>
  match qAk s with
  | none=>.error 1
  | some (nm,s1) =>
   match rd s1 n with
   | .error e=>.error e
   | .ok (x,s2,n2) =>
    match qBa rd k s2 n2 with
    | .error e=>.error e
    | .ok (l,s3,n3)=>.ok ((nm,x)::l,s3,n3)
def qAL:Nat→Bytes→Nat→Rd Nd
 | 0,_,_=>.error 9
 | f+1,s,n =>
  if 200<n+1 then .error 8
  else match s with
   | []=>.error 1
   | c::r =>
    if c=100 then
     match qAT r with
     | none=>.error 1
     | some (k,r1) =>
      match qBa (qAL f) k r1 (n+1) with
      | .error e=>.error e
      | .ok (l,s2,n2)=>.ok (.mk kDir [] false l,s2,n2)
    else if c=108∨c=102∨c=120 then
     match qAk r with
     | none=>.error 1
     | some (d,s2)=>.ok (.mk (if c=108 then kLink else kFile) d (c=120) [],s2,n+1)
    else .error 1
def qBf (s:Bytes):Except Nat Nd :=
 if 20000<s.length then .error 2
 else match qAL 9 s 0 with
  | .error e=>.error e
  | .ok (n,r,_)=>if r≠[] then .error 1 else if treeErr n=0 then .ok n else .error (treeErr n)
def qAu (s:Bytes):Option (List Bytes) :=
 if s=[47] then some []
 else match qAj 47 s with
  | []::l=>if l=[]∨8<l.length∨l.all isName=false then none else some l
  | _=>none
def qEo:List (Bytes×Nd)→Bytes→Option Nd
 | [],_=>none
 | (nm,x)::r,s=>if nm=s then some x else qEo r s
def qA0:Nd→List Bytes→Option Nd
 | n,[]=>some n
 | n,s::l=>match qEo n.kids s with | none=>none | some x=>qA0 x l
def getPath (n:Nd) (s:Bytes):Except Nat Nd :=
 if treeErr n≠0 then .error (treeErr n)
 else match qAu s with
  | none=>.error 5
  | some l=>match qA0 n l with | none=>.error 6 | some x=>.ok x
def crcBit (c:UInt32):UInt32:=(c >>> 1) ^^^ (0xEDB88320*(c &&& 1))
def crcByte (c:UInt32) (b:UInt8):UInt32:=Nat.repeat crcBit 8 (c ^^^ b.toUInt32)
def crc (s:Bytes):UInt32:= ~~~ (s.foldl crcByte 0xFFFFFFFF)
def qAA (n:Nat):Nat:=(n+15)/16
structure Ino where
 bytes:Nat
 links:Nat
 exec:Bool
 blocks:List Nat
 sum:UInt32
structure Tab where
 disk:List Bytes
 l:List (Option Ino)
def Tab.at_ (t:Tab) (n:Nat):Option Ino:=(t.l[n]?).join
def Tab.isUsed (t:Tab) (k:Nat):Bool:=t.l.any fun | some x=>x.blocks.contains k | none=>false
def Tab.free (t:Tab):List Nat:=(List.range t.disk.length).filter fun k=>!t.isUsed k
def Tab.all (t:Tab):List Nat:=(List.range t.l.length).filter fun n=>(t.at_ n).isSome
def qHM (s:Bytes):Bytes:=s++List.replicate (16-s.length) 0
def qBu (disk:List Bytes):List Nat→Bytes→List Bytes
 | [],_=>disk
 | k::r,s=>qBu (disk.set k (qHM (s.take 16))) r (s.drop 16)
def firstFree:List (Option Ino)→Nat
 | []=>0
 | none::_=>0
 | some _::r=>firstFree r+1
def putAt (l:List (Option Ino)) (n:Nat) (x:Ino):List (Option Ino):=if n<l.length then l.set n (some x) else l++[some x]
def Tab.make (t:Tab) (data:Bytes) (exec:Bool):Except Nat (Nat×Tab) :=
 if 2000<data.length then .error 2
 else if t.free.length<qAA data.length then .error 8
 else .ok (firstFree t.l,{ disk:=qBu t.disk (t.free.take (qAA data.length)) data,l:=putAt t.l (firstFree t.l) ⟨data.length,1,exec,t.free.take (qAA data.length),crc data⟩ })
def Tab.link (t:Tab) (n:Nat):Except Nat Tab :=
 match t.at_ n with
 | none=>.error 6
 | some x=>.ok { t with l:=t.l.set n (some { x with links:=x.links+1 }) }
def Tab.unlink (t:Tab) (n:Nat):Except Nat Tab :=
 match t.at_ n with
 | none=>.error 6
 | some x=>.ok { t with l:=t.l.set n (if x.links=1 then none else some { x with links:=x.links-1 }) }
def Tab.raw (t:Tab) (x:Ino):Bytes:=((x.blocks.map fun k=>t.disk.getD k []).flatten).take x.bytes
def Tab.read (t:Tab) (n:Nat):Except Nat Bytes :=
 match t.at_ n with
 | none=>.error 6
 | some x=>if crc (t.raw x)=x.sum then .ok (t.raw x) else .error 11
def Tab.scan (t:Tab):List Nat:=t.all.filter fun n=>match t.read n with | .ok _=>false | .error _=>true
def Tab.mend (t:Tab) (n:Nat) (data:Bytes):Except Nat Tab :=
 match t.at_ n with
 | none=>.error 6
 | some x =>
  if data.length≠x.bytes∨crc data≠x.sum then .error 11
  else match t.read n with
   | .ok _=>.error 7
   | .error _=>.ok { t with disk:=qBu t.disk x.blocks data }
def turnBit (s:Bytes) (bit:Nat):Bytes:=s.set (bit/8) (s.getD (bit/8) 0 ^^^ ((1:UInt8) <<< (bit%8).toUInt8))
def Tab.rot (t:Tab) (k bit:Nat):Except Nat Tab :=
 if t.disk.length≤k∨128≤bit then .error 2 else .ok { t with disk:=t.disk.set k (turnBit (t.disk.getD k []) bit) }
mutual
def qAn:Nd→Nd
 | .mk k d e ks=>.mk k (if k=kFile then [] else d) e (qAC ks)
def qAC:List (Bytes×Nd)→List (Bytes×Nd)
 | []=>[]
 | (nm,x)::r=>(nm,qAn x)::qAC r
end
structure Ent where
 k:Nat
 n:Nd
 f:List (Bytes×Nat)
structure Dirs where
 t:Tab
 l:List Ent
 next:Nat
def qAe (n:Nd):List It:=(items n).filter fun x=>x.n.kind==kFile
def qCv (n:Nd):Nat:=((qAe n).map fun x=>qAA x.n.data.length).sum
def makeAll (t:Tab):List It→Except Nat (List (Bytes×Nat)×Tab)
 | []=>.ok ([],t)
 | x::r =>
  match t.make x.n.data x.n.exec with
  | .error e=>.error e
  | .ok (n,t1) =>
   match makeAll t1 r with
   | .error e=>.error e
   | .ok (l,t2)=>.ok ((told x.path,n)::l,t2)
def Dirs.put (d:Dirs) (n:Nd):Except Nat (Nat×Dirs) :=
 if treeErr n≠0 then .error (treeErr n)
 else if d.t.free.length<qCv n then .error 8
 else match makeAll d.t (qAe n) with
  | .error e=>.error e
  | .ok (f,t)=>.ok (d.next,{ t:=t,l:=d.l++[⟨d.next,qAn n,f⟩],next:=d.next+1 })
def qAh (l:List Ent) (k:Nat):Option Ent:=l.find? fun e=>e.k==k
def qAG (f:List (Bytes×Nat)) (s:Bytes):Option Nat:=(f.find? fun p=>p.1==s).map (·.2)
mutual
def qA6 (t:Tab) (f:List (Bytes×Nat)):Nd→Bytes→Except Nat Nd
 | .mk k d e ks,p =>
  if k=kFile then
   match t.read ((qAG f (told p)).getD 0) with
   | .ok s=>.ok (.mk k s e ks)
   | .error c=>.error c
  else match qAZ t f ks p with
   | .ok l=>.ok (.mk k d e l)
   | .error c=>.error c
def qAZ (t:Tab) (f:List (Bytes×Nat)):List (Bytes×Nd)→Bytes→Except Nat (List (Bytes×Nd))
 | [],_=>.ok []
 | (nm,x)::r,p =>
  match qA6 t f x (p++47::nm) with
  | .error c=>.error c
  | .ok y=>match qAZ t f r p with
   | .error c=>.error c
   | .ok l=>.ok ((nm,y)::l)
end
def Dirs.get (d:Dirs) (k:Nat):Except Nat Nd :=
 match qAh d.l k with
 | none=>.error 6
 | some e=>qA6 d.t e.f e.n []
def qAf (t:Tab):List (Bytes×Nat)→Tab
 | []=>t
 | (_,n)::r=>qAf (match t.unlink n with | .ok t1=>t1 | .error _=>t) r
def Dirs.drop (d:Dirs) (k:Nat):Except Nat Dirs :=
 match qAh d.l k with
 | none=>.error 6
 | some e=>.ok { d with t:=qAf d.t e.f,l:=d.l.filter fun x=>x.k != k }
def Tab.lesser (t:Tab) (n:Nat):Option Nat :=
 match t.read n with
 | .error _=>none
 | .ok s=>(List.range n).find? fun m=>match t.read m with | .error _=>false | .ok r=>r==s&&((t.at_ m).map (·.exec))==((t.at_ n).map (·.exec))
def stepOf (t:Tab):List Ent→Option (Nat×Bytes×Nat×Nat)
 | []=>none
 | e::r =>
  match e.f.findSome? (fun p=>(t.lesser p.2).map fun m=>(e.k,p.1,p.2,m)) with
  | some x=>some x
  | none=>stepOf t r
def qAo (f:List (Bytes×Nat)) (s:Bytes) (n:Nat):List (Bytes×Nat):=f.map fun p=>if p.1=s then (p.1,n) else p
def Dirs.step (d:Dirs):Option Dirs :=
 match stepOf d.t d.l with
 | none=>none
 | some (k,s,was,n) =>
  let t1:=match d.t.link n with | .ok t=>t | .error _=>d.t
  let t2:=match t1.unlink was with | .ok t=>t | .error _=>t1
  some { d with t:=t2,l:=d.l.map fun e=>if e.k=k then { e with f:=qAo e.f s n } else e }
def Dirs.merge:Nat→Dirs→Nat×Dirs
 | 0,d=>(0,d)
 | f+1,d=>match d.step with | none=>(0,d) | some d1=>((Dirs.merge f d1).1+1,(Dirs.merge f d1).2)
def Dirs.weight (d:Dirs):Nat:=(d.l.map fun e=>(e.f.map (·.2)).sum).sum
def Dirs.mergeAll (d:Dirs):Nat×Dirs:=Dirs.merge d.weight d
def Tab.saved (t:Tab):Nat:=(t.l.map fun | some x=>(x.links-1)*x.blocks.length | none=>0).sum
structure Pk where
 name:Bytes
 refs:List Bytes
 k:Nat
def qAi:List Pk→List Bytes→List Bytes
 | [],out=>out
 | p::r,out=>qAi r (if out.contains p.name then insAll p.refs out else out)
def closure (l:List Pk) (names:List Bytes):List Bytes:=qAi l.reverse (insAll names [])
def qDV (l:List Pk) (s:Bytes):List Bytes:=insAll ((l.filter fun p=>p.name != s&&p.refs.contains s).map (·.name)) []
def qBg (l:List Pk) (roots:List Bytes):List Bytes:=(l.reverse.filter fun p=>!(closure l roots).contains p.name).map (·.name)
def refsIn (n:Nd) (names:List Bytes):List Bytes :=
 insAll (((items n).filter fun x=>x.n.kind != kDir).flatMap fun x=>found x.n.data names) []
structure Sto where
 d:Dirs
 l:List Pk
 roots:List Bytes
def Sto.new (blocks:Nat):Sto:=⟨⟨⟨List.replicate blocks (List.replicate 16 0),[]⟩,[],0⟩,[],[]⟩
def Sto.find (s:Sto) (name:Bytes):Option Pk:=s.l.find? fun p=>p.name==name
def qAy:List Bytes→Bytes
 | []=>[110,111,116,104,105,110,103]
 | [x]=>x
 | x::r=>x++32::qAy r
def bOk:Bytes:=[111,107]
def Sto.add (s:Sto) (rest:Bytes):Except Nat Sto :=
 match cutAt 32 rest with
 | none=>.error 1
 | some (name,text) =>
  if isName name=false then .error 5
  else if (s.find name).isSome then .error 7
  else if 40≤s.l.length then .error 8
  else match qBf text with
   | .error e=>.error e
   | .ok n =>
    let l:=refsIn n (s.l.map (·.name)++[name])
    if 20<l.length then .error 8
    else match s.d.put n with
     | .error e=>.error e
     | .ok (k,d)=>.ok { s with d:=d,l:=s.l++[⟨name,l,k⟩] }
def qAq (d:Dirs) (l:List Pk):List Bytes→Dirs×List Pk
 | []=>(d,l)
 | nm::r =>
  match l.find? fun p=>p.name==nm with
  | none=>qAq d l r
  | some p=>qAq (match d.drop p.k with | .ok d1=>d1 | .error _=>d) (l.filter fun q=>q.name != nm) r
def Sto.gc (s:Sto):Nat×Sto :=
 let dead:=qBg s.l s.roots
 let x:=qAq s.d s.l dead
 (dead.length,{ s with d:=x.1,l:=x.2 })
def Sto.change (s:Sto) (line:Bytes):Option (Except Nat (Bytes×Sto)) :=
 if line=[103,99] then some (.ok (dec s.gc.1,s.gc.2))
 else if line=[111,112,116] then some (.ok (dec s.d.mergeAll.1,{ s with d:=s.d.mergeAll.2 }))
 else match cutAt 32 line with
  | none=>none
  | some (word,rest) =>
   if word=[97,100,100] then some ((s.add rest).map fun x=>(bOk,x))
   else if word=[114,111,111,116] then
    some (if (s.find rest).isNone then .error 6 else if s.roots.contains rest then .error 7 else .ok (bOk,{ s with roots:=ins rest s.roots }))
   else if word=[117,110,114,111,111,116] then
    some (if s.roots.contains rest then .ok (bOk,{ s with roots:=s.roots.filter fun x=>x != rest }) else .error 6)
   else if word=[114,111,116] then
    some (match cutAt 32 rest with
     | none=>.error 1
     | some (a,b)=>match numberOf a 6,numberOf b 6 with
      | some k,some bit=>(s.d.t.rot k bit).map fun t=>(bOk,{ s with d:={ s.d with t:=t } })
      | _,_=>.error 1)
   else if word=[109,101,110,100] then
    some (match cutAt 32 rest with
     | none=>.error 1
     | some (a,data)=>match numberOf a 6 with
      | some n=>(s.d.t.mend n data).map fun t=>(bOk,{ s with d:={ s.d with t:=t } })
      | none=>.error 1)
   else none
def Sto.tree (s:Sto) (name:Bytes):Except Nat Nd :=
 match s.find name with
 | none=>.error 6
 | some p=>s.d.get p.k
def qE6 (x:Nd):Bytes :=
 if x.kind=kFile then x.data else if x.kind=kLink then 45::62::x.data else qAy (x.kids.map (·.1))
def Sto.read (s:Sto) (rest:Bytes):Except Nat Bytes :=
 match cutAt 32 rest with
 | none=>.error 1
 | some (name,p) =>
  match s.tree name with
  | .error e=>.error e
  | .ok n=>(getPath n p).map qE6
def Sto.where_ (s:Sto) (n:Nat):Bytes :=
 qAy (s.l.flatMap fun p=>match qAh s.d.l p.k with
  | none=>[]
  | some e=>(e.f.filter fun q=>q.2==n).map fun q=>p.name++q.1)
def Sto.tell (s:Sto) (line:Bytes):Except Nat Bytes :=
 if line=[108,105,115,116] then .ok (qAy (s.l.map (·.name)))
 else if line=[114,111,111,116,115] then .ok (qAy s.roots)
 else if line=[102,114,101,101] then .ok (dec s.d.t.free.length)
 else if line=[115,97,118,101,100] then .ok (dec s.d.t.saved)
 else if line=[115,99,97,110] then .ok (qAy (s.d.t.scan.map dec))
 else match cutAt 32 line with
  | none=>.error 1
  | some (word,rest) =>
   if word=[114,101,97,100] then s.read rest
   else if word=[114,101,102,115] then (match s.find rest with | none=>.error 6 | some p=>.ok (qAy p.refs))
   else if word=[117,115,101,114,115] then (if (s.find rest).isNone then .error 6 else .ok (qAy (qDV s.l rest)))
   else if word=[110,101,101,100] then (if (s.find rest).isNone then .error 6 else .ok (qAy (closure s.l [rest])))
   else if word=[119,104,101,114,101] then (match numberOf rest 6 with | none=>.error 1 | some n=>.ok (s.where_ n))
   else .error 1
structure Tape where
 b:Bytes
 off:Bool
 cut:Option Nat
def record (s:Bytes):Bytes:=dec s.length++58::(s++[10,46])
def Tape.append (t:Tape) (s:Bytes):Nat×Tape :=
 if 20000<s.length then (2,t)
 else if 1048576<t.b.length+(record s).length then (8,t)
 else if t.off then (13,t)
 else match t.cut with
  | none=>(0,{ t with b:=t.b++record s })
  | some n=>if n<(record s).length then (13,{ t with b:=t.b++(record s).take n,off:=true }) else (0,{ t with b:=t.b++record s,cut:=some (n-(record s).length) })
def qAE (s:Sto) (t:Tape) (line:Bytes):Except Nat Bytes×Sto×Tape :=
 match s.change line with
 | none=>(s.tell line,s,t)
 | some (.error e)=>(.error e,s,t)
 | some (.ok (a,s1)) =>
  if (t.append line).1=0 then (.ok a,s1,(t.append line).2) else (.error (t.append line).1,s,(t.append line).2)
end Stl
