/- Texts of this claim, merged: ModelPure, TabPure. -/
import Derived.Test.YtceklhjomhjipaaGreatDoorKm04
set_option maxHeartbeats 16000000
set_option maxRecDepth 1000000
set_option linter.all false
namespace Stl
def kFile:Bytes:=[102,105,108,101]
def kDir:Bytes:=[100,105,114]
def kLink:Bytes:=[108,105,110,107]
def qCP:List Bytes→Bool
 | a::b::r=>decide (a<b)&&qCP (b::r)
 | _=>true
def ownErrP (k d:Bytes) (e:Bool) (nms:List Bytes):Nat :=
 if k≠kFile∧k≠kDir∧k≠kLink then 4
 else if (k≠kDir∧nms≠[])∨(k≠kFile∧e=true)∨(k=kDir∧d≠[]) then 3
 else if 2000<d.length∨(k=kLink∧(d.length<1∨40<d.length)) then 2
 else if k=kLink∧d.any (fun c=>decide (c<33)||decide (126<c))=true then 1
 else if nms.all isName=false then 5
 else if qCP nms=false then 10
 else 0
def ownErr (n:Nd):Nat:=ownErrP n.kind n.data n.exec (n.kids.map (·.1))
def treeErr (n:Nd):Nat:=(chk ownErr n 0 0).1
def told (p:Bytes):Bytes:=if p=[] then [47] else p
def items (n:Nd):List It:=if treeErr n=0 then flat n [] 0 else []
def qAv (n:Nd):List Bytes:=((items n).filter fun x=>x.n.kind==kFile).map fun x=>told x.path
mutual
def qCO:Nd→Nd→Bool
 | .mk k d e ks,.mk k' d' e' ks'=>k==k'&&d==d'&&e==e'&&qA1 ks ks'
def qA1:List (Bytes×Nd)→List (Bytes×Nd)→Bool
 | [],[]=>true
 | (a,x)::r,(b,y)::s=>a==b&&qCO x y&&qA1 r s
 | _,_=>false
end
mutual
theorem qJh:∀ a b:Nd,qCO a b=true↔a=b
 | .mk k d e ks,.mk k' d' e' ks'=>by
  have:=qDQ ks ks'
  simp only [qCO,zC,beq_iff_eq,this,Nd.mk.injEq,and_assoc]
theorem qDQ:∀ a b:List (Bytes×Nd),qA1 a b=true↔a=b
 | [],[]=>by simp [qA1]
 | [],_::_=>by simp [qA1]
 | _::_,[]=>by simp [qA1]
 | (a,x)::r,(b,y)::s=>by
  have h1:=qJh x y
  have h2:=qDQ r s
  simp only [qA1,zC,beq_iff_eq,h1,h2,zD,Prod.mk.injEq]
end
def isDigit (c:UInt8):Bool:=48≤c&&c≤57
def qCa (s:Bytes):Nat:=s.foldl (fun n c=>10*n+(c.toNat-48)) 0
def numberOf (s:Bytes) (most:Nat):Option Nat :=
 if s.length<1∨most<s.length∨(1<s.length∧s.head?=some 48)∨s.all isDigit=false then none else some (qCa s)
def qQH:Nat→Nat→Bytes
 | 0,_=>[]
 | f+1,n=>if n<10 then [48+n.toUInt8] else qQH f (n/10)++[48+(n%10).toUInt8]
def dec (n:Nat):Bytes:=qQH (n+1) n
def cutAt (by_:UInt8):Bytes→Option (Bytes×Bytes)
 | []=>none
 | c::r=>if c=by_ then some ([],r) else (cutAt by_ r).map fun p=>(c::p.1,p.2)
def qAk (by_:UInt8):Bytes→List Bytes
 | []=>[[]]
 | c::r=>if c=by_ then []::qAk by_ r else match qAk by_ r with | []=>[[c]] | x::l=>(c::x)::l
def qAW (s:Bytes):Option (Nat×Bytes) :=
 match cutAt 58 (s.take 7) with
 | none=>none
 | some (d,_)=>(numberOf d 6).map fun n=>(n,s.drop (d.length+1))
def qAl (s:Bytes):Option (Bytes×Bytes) :=
 match qAW s with
 | none=>none
 | some (n,r)=>if r.length<n then none else some (r.take n,r.drop n)
abbrev Rd (α:Type):=Except Nat (α×Bytes×Nat)
def qA9 (rd:Bytes→Nat→Rd Nd):Nat→Bytes→Nat→Rd (List (Bytes×Nd))
 | 0,s,n=>.ok ([],s,n)
 | k+1,s,n =>
  match qAl s with
  | none=>.error 1
  | some (nm,s1) =>
   match rd s1 n with
   | .error e=>.error e
   | .ok (x,s2,n2) =>
    match qA9 rd k s2 n2 with
    | .error e=>.error e
    | .ok (l,s3,n3)=>.ok ((nm,x)::l,s3,n3)
def qAL:Nat→Bytes→Nat→Rd Nd
 | 0,_,_=>.error 9
 | f+1,s,n =>
  if 200<n+1 then .error 8
  else match s with
   | []=>.error 1
   | c::r =>
    if c=100 then
     match qAW r with
     | none=>.error 1
     | some (k,r1) =>
      match qA9 (qAL f) k r1 (n+1) with
      | .error e=>.error e
      | .ok (l,s2,n2)=>.ok (.mk kDir [] false l,s2,n2)
    else if c=108∨c=102∨c=120 then
     match qAl r with
     | none=>.error 1
     | some (d,s2)=>.ok (.mk (if c=108 then kLink else kFile) d (c=120) [],s2,n+1)
    else .error 1
def qBe (s:Bytes):Except Nat Nd :=
 if 20000<s.length then .error 2
 else match qAL 9 s 0 with
  | .error e=>.error e
  | .ok (n,r,_)=>if r≠[] then .error 1 else if treeErr n=0 then .ok n else .error (treeErr n)
def qAy (s:Bytes):Option (List Bytes) :=
 if s=[47] then some []
 else match qAk 47 s with
  | []::l=>if l=[]∨8<l.length∨l.all isName=false then none else some l
  | _=>none
def qEz:List (Bytes×Nd)→Bytes→Option Nd
 | [],_=>none
 | (nm,x)::r,s=>if nm=s then some x else qEz r s
def qA2:Nd→List Bytes→Option Nd
 | n,[]=>some n
 | n,s::l=>match qEz n.kids s with | none=>none | some x=>qA2 x l
def getPath (n:Nd) (s:Bytes):Except Nat Nd :=
 if treeErr n≠0 then .error (treeErr n)
 else match qAy s with
  | none=>.error 5
  | some l=>match qA2 n l with | none=>.error 6 | some x=>.ok x
def crcBit (c:UInt32):UInt32:=(c >>> 1) ^^^ (0xEDB88320*(c &&& 1))
def crcByte (c:UInt32) (b:UInt8):UInt32:=Nat.repeat crcBit 8 (c ^^^ b.toUInt32)
def crc (s:Bytes):UInt32:= ~~~ (s.foldl crcByte 0xFFFFFFFF)
def qAA (n:Nat):Nat:=(n+15)/16
structure Ino where
 bytes:Nat
 links:Nat
 exec:Bool
 blocks:List Nat
 sum:UInt32
structure Tab where
 disk:List Bytes
 l:List (Option Ino)
def Tab.at_ (t:Tab) (n:Nat):Option Ino:=(t.l[n]?).join
def Tab.isUsed (t:Tab) (k:Nat):Bool:=t.l.any fun | some x=>x.blocks.contains k | none=>false
def Tab.free (t:Tab):List Nat:=(List.range t.disk.length).filter fun k=>!t.isUsed k
def Tab.all (t:Tab):List Nat:=(List.range t.l.length).filter fun n=>(t.at_ n).isSome
def qHy (s:Bytes):Bytes:=s++List.replicate (16-s.length) 0
def qBu (disk:List Bytes):List Nat→Bytes→List Bytes
 | [],_=>disk
 | k::r,s=>qBu (disk.set k (qHy (s.take 16))) r (s.drop 16)
def firstFree:List (Option Ino)→Nat
 | []=>0
 | none::_=>0
 | some _::r=>firstFree r+1
def putAt (l:List (Option Ino)) (n:Nat) (x:Ino):List (Option Ino):=if n<l.length then l.set n (some x) else l++[some x]
def Tab.make (t:Tab) (data:Bytes) (exec:Bool):Except Nat (Nat×Tab) :=
 if 2000<data.length then .error 2
 else if t.free.length<qAA data.length then .error 8
 else .ok (firstFree t.l,{ disk:=qBu t.disk (t.free.take (qAA data.length)) data,l:=putAt t.l (firstFree t.l) ⟨data.length,1,exec,t.free.take (qAA data.length),crc data⟩ })
def Tab.link (t:Tab) (n:Nat):Except Nat Tab :=
 match t.at_ n with
 | none=>.error 6
 | some x=>.ok { t with l:=t.l.set n (some { x with links:=x.links+1 }) }
def Tab.unlink (t:Tab) (n:Nat):Except Nat Tab :=
 match t.at_ n with
 | none=>.error 6
 | some x=>.ok { t with l:=t.l.set n (if x.links=1 then none else some { x with links:=x.links-1 }) }
def Tab.raw (t:Tab) (x:Ino):Bytes:=((x.blocks.map fun k=>t.disk.getD k []).flatten).take x.bytes
def Tab.read (t:Tab) (n:Nat):Except Nat Bytes :=
 match t.at_ n with
 | none=>.error 6
 | some x=>if crc (t.raw x)=x.sum then .ok (t.raw x) else .error 11
def Tab.scan (t:Tab):List Nat:=t.all.filter fun n=>match t.read n with | .ok _=>false | .error _=>true
def Tab.mend (t:Tab) (n:Nat) (data:Bytes):Except Nat Tab :=
 match t.at_ n with
 | none=>.error 6
 | some x =>
  if data.length≠x.bytes∨crc data≠x.sum then .error 11
  else match t.read n with
   | .ok _=>.error 7
   | .error _=>.ok { t with disk:=qBu t.disk x.blocks data }
def turnBit (s:Bytes) (bit:Nat):Bytes:=s.set (bit/8) (s.getD (bit/8) 0 ^^^ ((1:UInt8) <<< (bit%8).toUInt8))
def Tab.rot (t:Tab) (k bit:Nat):Except Nat Tab :=
 if t.disk.length≤k∨128≤bit then .error 2 else .ok { t with disk:=t.disk.set k (turnBit (t.disk.getD k []) bit) }
mutual
def qAo:Nd→Nd
 | .mk k d e ks=>.mk k (if k=kFile then [] else d) e (qAC ks)
def qAC:List (Bytes×Nd)→List (Bytes×Nd)
 | []=>[]
 | (nm,x)::r=>(nm,qAo x)::qAC r
end
structure Ent where
 k:Nat
 n:Nd
 f:List (Bytes×Nat)
structure Dirs where
 t:Tab
 l:List Ent
 next:Nat
def qAe (n:Nd):List It:=(items n).filter fun x=>x.n.kind==kFile
def qCu (n:Nd):Nat:=((qAe n).map fun x=>qAA x.n.data.length).sum
def makeAll (t:Tab):List It→Except Nat (List (Bytes×Nat)×Tab)
 | []=>.ok ([],t)
 | x::r =>
  match t.make x.n.data x.n.exec with
  | .error e=>.error e
  | .ok (n,t1) =>
   match makeAll t1 r with
   | .error e=>.error e
   | .ok (l,t2)=>.ok ((told x.path,n)::l,t2)
def Dirs.put (d:Dirs) (n:Nd):Except Nat (Nat×Dirs) :=
 if treeErr n≠0 then .error (treeErr n)
 else if d.t.free.length<qCu n then .error 8
 else match makeAll d.t (qAe n) with
  | .error e=>.error e
  | .ok (f,t)=>.ok (d.next,{ t:=t,l:=d.l++[⟨d.next,qAo n,f⟩],next:=d.next+1 })
def qAi (l:List Ent) (k:Nat):Option Ent:=l.find? fun e=>e.k==k
def qAI (f:List (Bytes×Nat)) (s:Bytes):Option Nat:=(f.find? fun p=>p.1==s).map (·.2)
mutual
def qBo (t:Tab) (f:List (Bytes×Nat)):Nd→Bytes→Except Nat Nd
 | .mk k d e ks,p =>
  if k=kFile then
   match t.read ((qAI f (told p)).getD 0) with
   | .ok s=>.ok (.mk k s e ks)
   | .error c=>.error c
  else match qBh t f ks p with
   | .ok l=>.ok (.mk k d e l)
   | .error c=>.error c
def qBh (t:Tab) (f:List (Bytes×Nat)):List (Bytes×Nd)→Bytes→Except Nat (List (Bytes×Nd))
 | [],_=>.ok []
 | (nm,x)::r,p =>
  match qBo t f x (p++47::nm) with
  | .error c=>.error c
  | .ok y=>match qBh t f r p with
   | .error c=>.error c
   | .ok l=>.ok ((nm,y)::l)
end
def Dirs.get (d:Dirs) (k:Nat):Except Nat Nd :=
 match qAi d.l k with
 | none=>.error 6
 | some e=>qBo d.t e.f e.n []
def qAg (t:Tab):List (Bytes×Nat)→Tab
 | []=>t
 | (_,n)::r=>qAg (match t.unlink n with | .ok t1=>t1 | .error _=>t) r
def Dirs.drop (d:Dirs) (k:Nat):Except Nat Dirs :=
 match qAi d.l k with
 | none=>.error 6
 | some e=>.ok { d with t:=qAg d.t e.f,l:=d.l.filter fun x=>x.k != k }
def Tab.lesser (t:Tab) (n:Nat):Option Nat :=
 match t.read n with
 | .error _=>none
 | .ok s=>(List.range n).find? fun m=>match t.read m with | .error _=>false | .ok r=>r==s&&((t.at_ m).map (·.exec))==((t.at_ n).map (·.exec))
def stepOf (t:Tab):List Ent→Option (Nat×Bytes×Nat×Nat)
 | []=>none
 | e::r =>
  match e.f.findSome? (fun p=>(t.lesser p.2).map fun m=>(e.k,p.1,p.2,m)) with
  | some x=>some x
  | none=>stepOf t r
def qAp (f:List (Bytes×Nat)) (s:Bytes) (n:Nat):List (Bytes×Nat):=f.map fun p=>if p.1=s then (p.1,n) else p
def Dirs.step (d:Dirs):Option Dirs :=
 match stepOf d.t d.l with
 | none=>none
 | some (k,s,was,n) =>
  let t1:=match d.t.link n with | .ok t=>t | .error _=>d.t
  let t2:=match t1.unlink was with | .ok t=>t | .error _=>t1
  some { d with t:=t2,l:=d.l.map fun e=>if e.k=k then { e with f:=qAp e.f s n } else e }
def Dirs.merge:Nat→Dirs→Nat×Dirs
 | 0,d=>(0,d)
 | f+1,d=>match d.step with | none=>(0,d) | some d1=>((Dirs.merge f d1).1+1,(Dirs.merge f d1).2)
def Dirs.weight (d:Dirs):Nat:=(d.l.map fun e=>(e.f.map (·.2)).sum).sum
def Dirs.mergeAll (d:Dirs):Nat×Dirs:=Dirs.merge d.weight d
def Tab.saved (t:Tab):Nat:=(t.l.map fun | some x=>(x.links-1)*x.blocks.length | none=>0).sum
structure Pk where
 name:Bytes
 refs:List Bytes
 k:Nat
def qAD:List Pk→List Bytes→List Bytes
 | [],out=>out
 | p::r,out=>qAD r (if out.contains p.name then insAll p.refs out else out)
def closure (l:List Pk) (names:List Bytes):List Bytes:=qAD l.reverse (insAll names [])
def qD6 (l:List Pk) (s:Bytes):List Bytes:=insAll ((l.filter fun p=>p.name != s&&p.refs.contains s).map (·.name)) []
def qBt (l:List Pk) (roots:List Bytes):List Bytes:=(l.reverse.filter fun p=>!(closure l roots).contains p.name).map (·.name)
def refsIn (n:Nd) (names:List Bytes):List Bytes :=
 insAll (((items n).filter fun x=>x.n.kind != kDir).flatMap fun x=>found x.n.data names) []
structure Sto where
 d:Dirs
 l:List Pk
 roots:List Bytes
def Sto.new (blocks:Nat):Sto:=⟨⟨⟨List.replicate blocks (List.replicate 16 0),[]⟩,[],0⟩,[],[]⟩
def Sto.find (s:Sto) (name:Bytes):Option Pk:=s.l.find? fun p=>p.name==name
def qAx:List Bytes→Bytes
 | []=>[110,111,116,104,105,110,103]
 | [x]=>x
 | x::r=>x++32::qAx r
def bOk:Bytes:=[111,107]
def Sto.add (s:Sto) (rest:Bytes):Except Nat Sto :=
 match cutAt 32 rest with
 | none=>.error 1
 | some (name,text) =>
  if isName name=false then .error 5
  else if (s.find name).isSome then .error 7
  else if 40≤s.l.length then .error 8
  else match qBe text with
   | .error e=>.error e
   | .ok n =>
    let l:=refsIn n (s.l.map (·.name)++[name])
    if 20<l.length then .error 8
    else match s.d.put n with
     | .error e=>.error e
     | .ok (k,d)=>.ok { s with d:=d,l:=s.l++[⟨name,l,k⟩] }
def qAw (d:Dirs) (l:List Pk):List Bytes→Dirs×List Pk
 | []=>(d,l)
 | nm::r =>
  match l.find? fun p=>p.name==nm with
  | none=>qAw d l r
  | some p=>qAw (match d.drop p.k with | .ok d1=>d1 | .error _=>d) (l.filter fun q=>q.name != nm) r
def Sto.gc (s:Sto):Nat×Sto :=
 let dead:=qBt s.l s.roots
 let x:=qAw s.d s.l dead
 (dead.length,{ s with d:=x.1,l:=x.2 })
def Sto.change (s:Sto) (line:Bytes):Option (Except Nat (Bytes×Sto)) :=
 if line=[103,99] then some (.ok (dec s.gc.1,s.gc.2))
 else if line=[111,112,116] then some (.ok (dec s.d.mergeAll.1,{ s with d:=s.d.mergeAll.2 }))
 else match cutAt 32 line with
  | none=>none
  | some (word,rest) =>
   if word=[97,100,100] then some ((s.add rest).map fun x=>(bOk,x))
   else if word=[114,111,111,116] then
    some (if (s.find rest).isNone then .error 6 else if s.roots.contains rest then .error 7 else .ok (bOk,{ s with roots:=ins rest s.roots }))
   else if word=[117,110,114,111,111,116] then
    some (if s.roots.contains rest then .ok (bOk,{ s with roots:=s.roots.filter fun x=>x != rest }) else .error 6)
   else if word=[114,111,116] then
    some (match cutAt 32 rest with
     | none=>.error 1
     | some (a,b)=>match numberOf a 6,numberOf b 6 with
      | some k,some bit=>(s.d.t.rot k bit).map fun t=>(bOk,{ s with d:={ s.d with t:=t } })
      | _,_=>.error 1)
   else if word=[109,101,110,100] then
    some (match cutAt 32 rest with
     | none=>.error 1
     | some (a,data)=>match numberOf a 6 with
      | some n=>(s.d.t.mend n data).map fun t=>(bOk,{ s with d:={ s.d with t:=t } })
      | none=>.error 1)
   else none
def Sto.tree (s:Sto) (name:Bytes):Except Nat Nd :=
 match s.find name with
 | none=>.error 6
 | some p=>s.d.get p.k
def qFf (x:Nd):Bytes :=
 if x.kind=kFile then x.data else if x.kind=kLink then 45::62::x.data else qAx (x.kids.map (·.1))
def Sto.read (s:Sto) (rest:Bytes):Except Nat Bytes :=
 match cutAt 32 rest with
 | none=>.error 1
 | some (name,p) =>
  match s.tree name with
  | .error e=>.error e
  | .ok n=>(getPath n p).map qFf
def Sto.where_ (s:Sto) (n:Nat):Bytes :=
 qAx (s.l.flatMap fun p=>match qAi s.d.l p.k with
  | none=>[]
  | some e=>(e.f.filter fun q=>q.2==n).map fun q=>p.name++q.1)
def Sto.tell (s:Sto) (line:Bytes):Except Nat Bytes :=
 if line=[108,105,115,116] then .ok (qAx (s.l.map (·.name)))
 else if line=[114,111,111,116,115] then .ok (qAx s.roots)
 else if line=[102,114,101,101] then .ok (dec s.d.t.free.length)
 else if line=[115,97,118,101,100] then .ok (dec s.d.t.saved)
 else if line=[115,99,97,110] then .ok (qAx (s.d.t.scan.map dec))
 else match cutAt 32 line with
  | none=>.error 1
  | some (word,rest) =>
   if word=[114,101,97,100] then s.read rest
   else if word=[114,101,102,115] then (match s.find rest with | none=>.error 6 | some p=>.ok (qAx p.refs))
   else if word=[117,115,101,114,115] then (if (s.find rest).isNone then .error 6 else .ok (qAx (qD6 s.l rest)))
   else if word=[110,101,101,100] then (if (s.find rest).isNone then .error 6 else .ok (qAx (closure s.l [rest])))
   else if word=[119,104,101,114,101] then (match numberOf rest 6 with | none=>.error 1 | some n=>.ok (s.where_ n))
   else .error 1
structure Tape where
 b:Bytes
 off:Bool
 cut:Option Nat
def record (s:Bytes):Bytes:=dec s.length++58::(s++[10,46])
def Tape.setCut (t:Tape) (n:Nat):Except Nat Tape:=if t.off then .error 13 else .ok { t with cut:=some n }
def Tape.append (t:Tape) (s:Bytes):Nat×Tape :=
 if 20000<s.length then (2,t)
 else if 1048576<t.b.length+(record s).length then (8,t)
 else if t.off then (13,t)
 else match t.cut with
  | none=>(0,{ t with b:=t.b++record s })
  | some n=>if n<(record s).length then (13,{ t with b:=t.b++(record s).take n,off:=true }) else (0,{ t with b:=t.b++record s,cut:=some (n-(record s).length) })
def qA0 (b:Bytes):Option Bytes :=
 match cutAt 58 b with
 | none=>none
 | some (d,rest) =>
  match numberOf d 9 with
  | none=>none
  | some n=>if 20000<n∨rest.length<n+2∨(rest.drop n).take 2≠[10,46] then none else some (rest.take n)
def qAn:Nat→Bytes→List Bytes×Nat
 | 0,_=>([],0)
 | f+1,b =>
  match qA0 b with
  | none=>([],0)
  | some s=>(s::(qAn f (b.drop (record s).length)).1,(record s).length+(qAn f (b.drop (record s).length)).2)
def Tape.recover (t:Tape):List Bytes×Tape :=
 let x:=qAn (t.b.length+1) t.b
 (x.1,⟨t.b.take x.2,false,none⟩)
def qAh (s:Sto) (t:Tape) (line:Bytes):Except Nat Bytes×Sto×Tape :=
 match s.change line with
 | none=>(s.tell line,s,t)
 | some (.error e)=>(.error e,s,t)
 | some (.ok (a,s1)) =>
  if (t.append line).1=0 then (.ok a,s1,(t.append line).2) else (.error (t.append line).1,s,(t.append line).2)
structure qBl (t:Tab):Prop where
 whole:∀ b∈t.disk,b.length=16
 nodup:∀ n x,t.at_ n=some x→x.blocks.Nodup
 inside:∀ n x,t.at_ n=some x→∀ k∈x.blocks,k<t.disk.length
 need:∀ n x,t.at_ n=some x→x.blocks.length=qAA x.bytes
 links:∀ n x,t.at_ n=some x→1≤x.links
 bytes:∀ n x,t.at_ n=some x→x.bytes≤2000
 apart:∀ n m x y k,t.at_ n=some x→t.at_ m=some y→k∈x.blocks→k∈y.blocks→n=m
theorem qDR {t:Tab} {n:Nat} {x:Ino} (h:t.at_ n=some x):n<t.l.length:=by
 unfold Tab.at_ at h
 rcases zv n t.l.length with h2 | h2
 ·exact h2
 ·rw [List.getElem?_eq_none h2] at h;cases h
theorem qAr {t:Tab} {k:Nat}:t.isUsed k=true↔∃ n x,t.at_ n=some x∧k∈x.blocks:=by
 unfold Tab.isUsed Tab.at_
 rw [List.any_eq_true]
 constructor
 ·rintro ⟨o,ho,h⟩
  cases o with
  | none=>cases h
  | some x =>
   obtain ⟨n,hn⟩:=List.getElem?_of_mem ho
   exact ⟨n,x,by rw [hn];rfl,by simpa using h⟩
 ·rintro ⟨n,x,h,hk⟩
  refine ⟨some x,?_,by simpa using hk⟩
  cases ho:t.l[n]? with
  | none=>rw [ho] at h;cases h
  | some o =>
   rw [ho] at h
   have e:o=some x:=h
   subst e
   exact List.mem_of_getElem? ho
theorem qPx {t:Tab} {k:Nat}:k∈t.free↔k<t.disk.length∧t.isUsed k=false:=by
 unfold Tab.free
 rw [zZ,List.mem_range]
 simp
theorem qEP (t:Tab):t.free.Nodup:=List.Pairwise.filter _ List.nodup_range
theorem qB8:∀ l:List (Option Ino),firstFree l≤l.length
 | []=>by simp [firstFree]
 | none::_=>by simp [firstFree]
 | some _::r=>by have:=qB8 r;simp [firstFree];omega
theorem qDB:∀ l:List (Option Ino),(l[firstFree l]?).join=none
 | []=>rfl
 | none::_=>rfl
 | some _::r=>by simpa [firstFree] using qDB r
theorem qC0:∀ (l:List (Option Ino)) (n:Nat),n<firstFree l→((l[n]?).join).isSome=true
 | [],n,h=>by simp [firstFree] at h
 | none::_,n,h=>by simp [firstFree] at h
 | some x::r,0,_=>rfl
 | some x::r,n+1,h=>by simpa using qC0 r n (by simpa [firstFree] using h)
theorem qPF (l:List (Option Ino)) (n:Nat) (x:Ino) (hn:n≤l.length) (m:Nat):((putAt l n x)[m]?).join=if m=n then some x else (l[m]?).join:=by
 unfold putAt
 split
 ·rename_i h
  rw [List.getElem?_set]
  by_cases e:n=m
  ·subst e;simp [h]
  ·rw [zL1 e,zL1 (Ne.symm e)]
 ·have e:n=l.length:=by omega
  subst e
  rcases Nat.lt_trichotomy m l.length with h | h | h
  ·rw [List.getElem?_append_left h,zL1 (by omega)]
  ·subst h;simp
  ·rw [zL1 (by omega),List.getElem?_eq_none (by simp;omega),List.getElem?_eq_none (by omega)]
theorem qHf (l:List (Option Ino)) (n:Nat) (o:Option Ino) (hn:n<l.length) (m:Nat):((l.set n o)[m]?).join=if m=n then o else (l[m]?).join:=by
 rw [List.getElem?_set]
 by_cases e:n=m
 ·subst e;simp [hn]
 ·rw [zL1 e,zL1 (Ne.symm e)]
theorem qAJ:∀ (ks:List Nat) (disk:List Bytes) (s:Bytes),(qBu disk ks s).length=disk.length
 | [],_,_=>rfl
 | k::r,disk,s=>by simp [qBu,qAJ r]
theorem qFK (s:Bytes) (h:s.length≤16):(qHy s).length=16:=by simp [qHy];omega
theorem qDd:∀ (ks:List Nat) (disk:List Bytes) (s:Bytes),(∀ b∈disk,b.length=16)→∀ b∈qBu disk ks s,b.length=16
 | [],disk,s,h=>h
 | k::r,disk,s,h=>by
  refine qDd r _ _ fun b hb=>?_
  rcases List.mem_or_eq_of_mem_set hb with h2 | h2
  ·exact h b h2
  ·rw [h2];exact qFK _ (by simp;omega)
theorem qC2:∀ (ks:List Nat) (disk:List Bytes) (s:Bytes) (k:Nat),k∉ks→(qBu disk ks s)[k]?=disk[k]?
 | [],_,_,_,_=>rfl
 | j::r,disk,s,k,h=>by
  simp only [zY,not_or] at h
  rw [qBu,qC2 r _ _ k h.2,List.getElem?_set_ne (Ne.symm h.1)]
theorem qFL:∀ (ks:List Nat) (disk:List Bytes) (s:Bytes),ks.Nodup→(∀ k∈ks,k<disk.length)→ks.length=qAA s.length →
  ((ks.map fun k=>(qBu disk ks s).getD k []).flatten).take s.length=s
 | [],disk,s,_,_,hl=>by
  have:s.length=0:=by simp [qAA] at hl;omega
  have:s=[]:=zH this
  subst this
  rfl
 | k::r,disk,s,hn,hi,hl=>by
  obtain ⟨h1,h2⟩:=List.nodup_cons.1 hn
  have hlen:s.length≥1:=by simp [qAA] at hl;omega
  have e1:(qBu disk (k::r) s).getD k []=qHy (s.take 16):=by
   rw [List.getD_eq_getElem?_getD,qBu,qC2 r _ _ k h1,List.getElem?_set_self (hi k (by simp))]
   rfl
  have ih:=qFL r (disk.set k (qHy (s.take 16))) (s.drop 16) h2 (fun j hj=>by simp;exact hi j (by simp [hj])) (by simp [qAA] at hl ⊢;omega)
  rw [zV,List.flatten_cons,e1]
  rw [show (r.map fun j=>(qBu disk (k::r) s).getD j [])=r.map fun j=>(qBu (disk.set k (qHy (s.take 16))) r (s.drop 16)).getD j [] from rfl]
  rcases zv s.length 17 with h17 | h17
  ·have e2:s.take 16=s:=zn (by omega)
   rw [e2]
   have:(qHy s).length=16:=qFK _ (by omega)
   rw [zk (by omega)]
   simp [qHy]
  ·have e3:qHy (s.take 16)=s.take 16:=by simp [qHy];omega
   rw [e3] at ih ⊢
   rw [List.take_append,show (s.take 16).length=16 by simp;omega,zn (by simp;omega)]
   have e4:s.length-16=(s.drop 16).length:=by simp
   rw [e4,ih,List.take_append_drop]
theorem qN7 {t t':Tab} {x:Ino} (h:∀ k∈x.blocks,t'.disk[k]?=t.disk[k]?):t'.raw x=t.raw x:=by
 unfold Tab.raw
 have:(x.blocks.map fun k=>t'.disk.getD k [])=x.blocks.map fun k=>t.disk.getD k []:=by
  apply List.map_congr_left
  intro k hk
  rw [List.getD_eq_getElem?_getD,List.getD_eq_getElem?_getD,h k hk]
 rw [this]
section make
variable {t t':Tab} {data:Bytes} {exec:Bool} {n:Nat}
theorem qBd (h:t.make data exec=.ok (n,t')):data.length≤2000∧qAA data.length≤t.free.length∧n=firstFree t.l ∧
  t'={ disk:=qBu t.disk (t.free.take (qAA data.length)) data,l:=putAt t.l (firstFree t.l) ⟨data.length,1,exec,t.free.take (qAA data.length),crc data⟩ }:=by
 unfold Tab.make at h
 split at h
 ·cases h
 ·split at h
  ·cases h
  ·injection h with h
   injection h with h1 h2
   exact ⟨by omega,by omega,h1.symm,h2.symm⟩
theorem qDS (h:t.make data exec=.ok (n,t')) (m:Nat):t'.at_ m=if m=n then some ⟨data.length,1,exec,t.free.take (qAA data.length),crc data⟩ else t.at_ m:=by
 obtain ⟨_,_,rfl,rfl⟩:=qBd h
 exact qPF _ _ _ (qB8 _) m
theorem qD7 (h:t.make data exec=.ok (n,t')):t.at_ n=none:=by
 obtain ⟨_,_,rfl,_⟩:=qBd h
 exact qDB _
theorem qDb {k:Nat} {m:Nat} (hk:k∈t.free.take m):k<t.disk.length∧t.isUsed k=false:=qPx.1 (List.mem_of_mem_take hk)
theorem qMH (ht:qBl t) (h:t.make data exec=.ok (n,t')):qBl t':=by
 have hat:=qDS h
 have hwas:=qD7 h
 obtain ⟨hd,hf,en,et⟩:=qBd h
 have hdl:t'.disk.length=t.disk.length:=by rw [et];exact qAJ _ _ _
 have hnew:∀ m x,t.at_ m=some x→∀ k∈x.blocks,k∉t.free.take (qAA data.length):=by
  intro m x hx k hk hk2
  have:=(qDb hk2).2
  rw [qAr.2 ⟨m,x,hx,hk⟩] at this
  cases this
 constructor
 ·rw [et];exact qDd _ _ _ ht.whole
 ·intro m x hx
  rw [hat] at hx
  split at hx
  ·injection hx with hx;subst hx;exact ((List.take_sublist _ _).nodup (qEP t))
  ·exact ht.nodup m x hx
 ·intro m x hx k hk
  rw [hat] at hx
  rw [hdl]
  split at hx
  ·injection hx with hx;subst hx;exact (qDb hk).1
  ·exact ht.inside m x hx k hk
 ·intro m x hx
  rw [hat] at hx
  split at hx
  ·injection hx with hx;subst hx;simp;omega
  ·exact ht.need m x hx
 ·intro m x hx
  rw [hat] at hx
  split at hx
  ·injection hx with hx;subst hx;simp
  ·exact ht.links m x hx
 ·intro m x hx
  rw [hat] at hx
  split at hx
  ·injection hx with hx;subst hx;exact hd
  ·exact ht.bytes m x hx
 ·intro a b x y k hx hy hk1 hk2
  rw [hat] at hx hy
  by_cases ha:a=n<;>by_cases hb:b=n
  ·rw [ha,hb]
  ·rw [zM1 ha] at hx
   rw [zL1 hb] at hy
   injection hx with hx
   subst hx
   exact absurd hk1 (hnew b y hy k hk2)
  ·rw [zL1 ha] at hx
   rw [zM1 hb] at hy
   injection hy with hy
   subst hy
   exact absurd hk2 (hnew a x hx k hk1)
  ·rw [zL1 ha] at hx
   rw [zL1 hb] at hy
   exact ht.apart a b x y k hx hy hk1 hk2
theorem qMJ (ht:qBl t) (h:t.make data exec=.ok (n,t')):t'.read n=.ok data:=by
 have hat:=qDS h n
 obtain ⟨hd,hf,en,et⟩:=qBd h
 rw [zM1 rfl] at hat
 unfold Tab.read
 rw [hat]
 have hr:t'.raw ⟨data.length,1,exec,t.free.take (qAA data.length),crc data⟩=data:=by
  unfold Tab.raw
  rw [et]
  exact qFL _ _ _ ((List.take_sublist _ _).nodup (qEP t)) (fun k hk=>(qDb hk).1) (by simp;omega)
 simp only [hr]
 simp
theorem qFI (ht:qBl t) (h:t.make data exec=.ok (n,t')) {m:Nat} (hm:m≠n):t'.read m=t.read m:=by
 have hat:=qDS h m
 obtain ⟨hd,hf,en,et⟩:=qBd h
 rw [zL1 hm] at hat
 unfold Tab.read
 rw [hat]
 cases hx:t.at_ m with
 | none=>rfl
 | some x =>
  have hr:t'.raw x=t.raw x:=qN7 fun k hk=>by
   rw [et]
   refine qC2 _ _ _ _ fun hk2=>?_
   have:=(qDb hk2).2
   rw [qAr.2 ⟨m,x,hx,hk⟩] at this
   cases this
  simp only [hr]
theorem qFv (ht:qBl t) (h:t.make data exec=.ok (n,t')):t'.free.length+qAA data.length=t.free.length:=by
 have hat:=qDS h
 have hwas:=qD7 h
 obtain ⟨hd,hf,en,et⟩:=qBd h
 have hdl:t'.disk.length=t.disk.length:=by rw [et];exact qAJ _ _ _
 have hu:∀ k,k<t.disk.length→(t'.isUsed k=true↔t.isUsed k=true∨k∈t.free.take (qAA data.length)):=by
  intro k hk
  rw [qAr,qAr]
  constructor
  ·rintro ⟨m,x,hx,hkx⟩
   rw [hat] at hx
   split at hx
   ·injection hx with hx;subst hx;exact .inr hkx
   ·exact .inl ⟨m,x,hx,hkx⟩
  ·rintro (⟨m,x,hx,hkx⟩ | hk2)
   ·refine ⟨m,x,?_,hkx⟩
    rw [hat,zL1 (fun e=>by rw [e,hwas] at hx;cases hx)]
    exact hx
   ·exact ⟨n,_,by rw [hat,zM1 rfl],hk2⟩
 have e:t'.free=t.free.drop (qAA data.length):=by
  have hsplit:=List.take_append_drop (qAA data.length) t.free
  have hnd:=qEP t
  rw [← hsplit] at hnd
  have hdis:=(List.nodup_append.1 hnd).2.2
  have e1:t'.free=t.free.filter fun k=>!(t.free.take (qAA data.length)).contains k:=by
   unfold Tab.free
   rw [hdl,List.filter_filter]
   apply List.filter_congr
   intro k hk
   have:=hu k (by simpa using hk)
   cases h1:t'.isUsed k<;>cases h2:t.isUsed k<;>simp [h1,h2] at this ⊢<;>simpa [Tab.free] using this
  rw [e1]
  conv=>lhs;rw [← hsplit]
  rw [List.filter_append,hsplit]
  have a1:(t.free.take (qAA data.length)).filter (fun k=>!(t.free.take (qAA data.length)).contains k)=[]:=by
   rw [List.filter_eq_nil_iff]
   intro k hk
   simp [hk]
  have a2:(t.free.drop (qAA data.length)).filter (fun k=>!(t.free.take (qAA data.length)).contains k)=t.free.drop (qAA data.length):=by
   rw [List.filter_eq_self]
   intro k hk
   have:k∉t.free.take (qAA data.length):=fun hk2=>hdis k hk2 k hk rfl
   simpa using this
  rw [a1,a2,zi]
 rw [e,List.length_drop]
 omega
theorem qLP (h1:data.length≤2000) (h2:qAA data.length≤t.free.length):∃ n t',t.make data exec=.ok (n,t'):=by
 unfold Tab.make
 rw [zL1 (by omega),zL1 (by omega)]
 exact ⟨_,_,rfl⟩
end make
end Stl
