/- The plain model of the store (chapters 1 to 3, 5 to 11, 13, 14), as functions on plain data. No program in sight. Errors are numbers: 1 text, 2 bound, 3 shape, 4 kind, 5 name, 6 none, 7 exist, 8 full, 9 deep, 10 order, 11 sum, 12 in use, 13 off. -/
import Derived.Test.YtgmdifmokcnbpaaGreatDoorScanPure
import Derived.Test.YtgmdifmokcnbpaaGreatDoorTreePure
import Derived.Test.YtgmdifmokcnbpaaGreatDoorRisePure
set_option linter.unusedSimpArgs false
set_option linter.unusedVariables false
namespace Stl

def kFile : Bytes := [102, 105, 108, 101]
def kDir : Bytes := [100, 105, 114]
def kLink : Bytes := [108, 105, 110, 107]

/-- Names of kids rise. -/
def risesB : List Bytes → Bool
  | a :: b :: r => decide (a < b) && risesB (b :: r)
  | _ => true

/-- A node, by its parts and its kids' names: an error's number. -/
def ownErrP (k d : Bytes) (e : Bool) (nms : List Bytes) : Nat :=
  if k ≠ kFile ∧ k ≠ kDir ∧ k ≠ kLink then 4
  else if (k ≠ kDir ∧ nms ≠ []) ∨ (k ≠ kFile ∧ e = true) ∨ (k = kDir ∧ d ≠ []) then 3
  else if 2000 < d.length ∨ (k = kLink ∧ (d.length < 1 ∨ 40 < d.length)) then 2
  else if k = kLink ∧ d.any (fun c => decide (c < 33) || decide (126 < c)) = true then 1
  else if nms.all isName = false then 5
  else if risesB nms = false then 10
  else 0

/-- A node, but for its kids' nodes: an error's number. -/
def ownErr (n : Nd) : Nat := ownErrP n.kind n.data n.exec (n.kids.map (·.1))

/-- The check of a tree: an error's number. -/
def treeErr (n : Nd) : Nat := (chk ownErr n 0 0).1

/-- A node's path as it is told. -/
def told (p : Bytes) : Bytes := if p = [] then [47] else p

/-- All nodes with their paths (not well: none). -/
def items (n : Nd) : List It := if treeErr n = 0 then flat n [] 0 else []

/-- Paths of all files. -/
def filesOf (n : Nd) : List Bytes := ((items n).filter fun x => x.n.kind == kFile).map fun x => told x.path

mutual
/-- Are two trees the same? -/
def sameNd : Nd → Nd → Bool
  | .mk k d e ks, .mk k' d' e' ks' => k == k' && d == d' && e == e' && sameKids ks ks'
def sameKids : List (Bytes × Nd) → List (Bytes × Nd) → Bool
  | [], [] => true
  | (a, x) :: r, (b, y) :: s => a == b && sameNd x y && sameKids r s
  | _, _ => false
end

mutual
theorem sameNd_eq : ∀ a b : Nd, sameNd a b = true ↔ a = b
  | .mk k d e ks, .mk k' d' e' ks' => by
    have := sameKids_eq ks ks'
    simp only [sameNd, Bool.and_eq_true, beq_iff_eq, this, Nd.mk.injEq, and_assoc]
theorem sameKids_eq : ∀ a b : List (Bytes × Nd), sameKids a b = true ↔ a = b
  | [], [] => by simp [sameKids]
  | [], _ :: _ => by simp [sameKids]
  | _ :: _, [] => by simp [sameKids]
  | (a, x) :: r, (b, y) :: s => by
    have h1 := sameNd_eq x y
    have h2 := sameKids_eq r s
    simp only [sameKids, Bool.and_eq_true, beq_iff_eq, h1, h2, List.cons.injEq, Prod.mk.injEq]
end

/-! ### numbers -/
def isDigit (c : UInt8) : Bool := 48 ≤ c && c ≤ 57

/-- The number that digits make. -/
def numVal (s : Bytes) : Nat := s.foldl (fun n c => 10 * n + (c.toNat - 48)) 0

/-- Digits, so many at most, without needless zeros. -/
def numberOf (s : Bytes) (most : Nat) : Option Nat :=
  if s.length < 1 ∨ most < s.length ∨ (1 < s.length ∧ s.head? = some 48) ∨ s.all isDigit = false then none else some (numVal s)

/-- Decimal digits. -/
def decF : Nat → Nat → Bytes
  | 0, _ => []
  | f + 1, n => if n < 10 then [48 + n.toUInt8] else decF f (n / 10) ++ [48 + (n % 10).toUInt8]
def dec (n : Nat) : Bytes := decF (n + 1) n

/-- A text cut at its first byte of a kind. -/
def cutAt (by_ : UInt8) : Bytes → Option (Bytes × Bytes)
  | [] => none
  | c :: r => if c = by_ then some ([], r) else (cutAt by_ r).map fun p => (c :: p.1, p.2)

/-- A text split at each byte of a kind. -/
def splitAll (by_ : UInt8) : Bytes → List Bytes
  | [] => [[]]
  | c :: r => if c = by_ then [] :: splitAll by_ r else match splitAll by_ r with | [] => [[c]] | x :: l => (c :: x) :: l

/-! ### trees as text -/
/-- A number up to a colon, and what is behind it. -/
def headNum (s : Bytes) : Option (Nat × Bytes) :=
  match cutAt 58 (s.take 7) with
  | none => none
  | some (d, _) => (numberOf d 6).map fun n => (n, s.drop (d.length + 1))

/-- Bytes that are counted, and what is behind them. -/
def countedB (s : Bytes) : Option (Bytes × Bytes) :=
  match headNum s with
  | none => none
  | some (n, r) => if r.length < n then none else some (r.take n, r.drop n)

/-- What a reader comes to: an error's number; or a thing, the text behind it, and how many nodes there were. -/
abbrev Rd (α : Type) := Except Nat (α × Bytes × Nat)

/-- So many kids, by a reader of nodes. -/
def rdKids (rd : Bytes → Nat → Rd Nd) : Nat → Bytes → Nat → Rd (List (Bytes × Nd))
  | 0, s, n => .ok ([], s, n)
  | k + 1, s, n =>
    match countedB s with
    | none => .error 1
    | some (nm, s1) =>
      match rd s1 n with
      | .error e => .error e
      | .ok (x, s2, n2) =>
        match rdKids rd k s2 n2 with
        | .error e => .error e
        | .ok (l, s3, n3) => .ok ((nm, x) :: l, s3, n3)

/-- A node, at most so deep: none at 0. -/
def rdNode : Nat → Bytes → Nat → Rd Nd
  | 0, _, _ => .error 9
  | f + 1, s, n =>
    if 200 < n + 1 then .error 8
    else match s with
      | [] => .error 1
      | c :: r =>
        if c = 100 then
          match headNum r with
          | none => .error 1
          | some (k, r1) =>
            match rdKids (rdNode f) k r1 (n + 1) with
            | .error e => .error e
            | .ok (l, s2, n2) => .ok (.mk kDir [] false l, s2, n2)
        else if c = 108 ∨ c = 102 ∨ c = 120 then
          match countedB r with
          | none => .error 1
          | some (d, s2) => .ok (.mk (if c = 108 then kLink else kFile) d (c = 120) [], s2, n + 1)
        else .error 1

/-- A tree of a text. -/
def readTree (s : Bytes) : Except Nat Nd :=
  if 20000 < s.length then .error 2
  else match rdNode 9 s 0 with
    | .error e => .error e
    | .ok (n, r, _) => if r ≠ [] then .error 1 else if treeErr n = 0 then .ok n else .error (treeErr n)

/-! ### paths -/
def splitPath (s : Bytes) : Option (List Bytes) :=
  if s = [47] then some []
  else match splitAll 47 s with
    | [] :: l => if l = [] ∨ 8 < l.length ∨ l.all isName = false then none else some l
    | _ => none

/-- The kid of a name. -/
def kidOf : List (Bytes × Nd) → Bytes → Option Nd
  | [], _ => none
  | (nm, x) :: r, s => if nm = s then some x else kidOf r s

/-- The node at names. -/
def atNames : Nd → List Bytes → Option Nd
  | n, [] => some n
  | n, s :: l => match kidOf n.kids s with | none => none | some x => atNames x l

def getPath (n : Nd) (s : Bytes) : Except Nat Nd :=
  if treeErr n ≠ 0 then .error (treeErr n)
  else match splitPath s with
    | none => .error 5
    | some l => match atNames n l with | none => .error 6 | some x => .ok x

/-! ### a disk, space, files by numbers -/
/-- CRC-32's step by a bit. -/
def crcBit (c : UInt32) : UInt32 := (c >>> 1) ^^^ (0xEDB88320 * (c &&& 1))
def crcByte (c : UInt32) (b : UInt8) : UInt32 := Nat.repeat crcBit 8 (c ^^^ b.toUInt32)
def crc (s : Bytes) : UInt32 := ~~~ (s.foldl crcByte 0xFFFFFFFF)

def needB (n : Nat) : Nat := (n + 15) / 16

/-- An inode. -/
structure Ino where
  bytes : Nat
  links : Nat
  exec : Bool
  blocks : List Nat
  sum : UInt32

/-- A table of inodes over a disk. -/
structure Tab where
  disk : List Bytes
  l : List (Option Ino)

def Tab.at_ (t : Tab) (n : Nat) : Option Ino := (t.l[n]?).join
def Tab.isUsed (t : Tab) (k : Nat) : Bool := t.l.any fun | some x => x.blocks.contains k | none => false
def Tab.free (t : Tab) : List Nat := (List.range t.disk.length).filter fun k => !t.isUsed k
def Tab.all (t : Tab) : List Nat := (List.range t.l.length).filter fun n => (t.at_ n).isSome

/-- Bytes filled up with zeros to a block. -/
def padB (s : Bytes) : Bytes := s ++ List.replicate (16 - s.length) 0

/-- Bytes written into blocks. -/
def writeB (disk : List Bytes) : List Nat → Bytes → List Bytes
  | [], _ => disk
  | k :: r, s => writeB (disk.set k (padB (s.take 16))) r (s.drop 16)

/-- The first place that is free, or the end. -/
def firstFree : List (Option Ino) → Nat
  | [] => 0
  | none :: _ => 0
  | some _ :: r => firstFree r + 1

/-- A list with a thing at a place, or at its end. -/
def putAt (l : List (Option Ino)) (n : Nat) (x : Ino) : List (Option Ino) := if n < l.length then l.set n (some x) else l ++ [some x]

def Tab.make (t : Tab) (data : Bytes) (exec : Bool) : Except Nat (Nat × Tab) :=
  if 2000 < data.length then .error 2
  else if t.free.length < needB data.length then .error 8
  else .ok (firstFree t.l, { disk := writeB t.disk (t.free.take (needB data.length)) data, l := putAt t.l (firstFree t.l) ⟨data.length, 1, exec, t.free.take (needB data.length), crc data⟩ })

def Tab.link (t : Tab) (n : Nat) : Except Nat Tab :=
  match t.at_ n with
  | none => .error 6
  | some x => .ok { t with l := t.l.set n (some { x with links := x.links + 1 }) }

def Tab.unlink (t : Tab) (n : Nat) : Except Nat Tab :=
  match t.at_ n with
  | none => .error 6
  | some x => .ok { t with l := t.l.set n (if x.links = 1 then none else some { x with links := x.links - 1 }) }

/-- The bytes that an inode's blocks hold. -/
def Tab.raw (t : Tab) (x : Ino) : Bytes := ((x.blocks.map fun k => t.disk.getD k []).flatten).take x.bytes

def Tab.read (t : Tab) (n : Nat) : Except Nat Bytes :=
  match t.at_ n with
  | none => .error 6
  | some x => if crc (t.raw x) = x.sum then .ok (t.raw x) else .error 11

def Tab.scan (t : Tab) : List Nat := t.all.filter fun n => match t.read n with | .ok _ => false | .error _ => true

def Tab.mend (t : Tab) (n : Nat) (data : Bytes) : Except Nat Tab :=
  match t.at_ n with
  | none => .error 6
  | some x =>
    if data.length ≠ x.bytes ∨ crc data ≠ x.sum then .error 11
    else match t.read n with
      | .ok _ => .error 7
      | .error _ => .ok { t with disk := writeB t.disk x.blocks data }

/-- A bit of a block turned. -/
def turnBit (s : Bytes) (bit : Nat) : Bytes := s.set (bit / 8) (s.getD (bit / 8) 0 ^^^ ((1 : UInt8) <<< (bit % 8).toUInt8))

def Tab.rot (t : Tab) (k bit : Nat) : Except Nat Tab :=
  if t.disk.length ≤ k ∨ 128 ≤ bit then .error 2 else .ok { t with disk := t.disk.set k (turnBit (t.disk.getD k []) bit) }

/-! ### trees of numbers -/
mutual
def bareNd : Nd → Nd
  | .mk k d e ks => .mk k (if k = kFile then [] else d) e (bareKids ks)
def bareKids : List (Bytes × Nd) → List (Bytes × Nd)
  | [] => []
  | (nm, x) :: r => (nm, bareNd x) :: bareKids r
end

/-- A tree of numbers: its number, its nodes, its files. -/
structure Ent where
  k : Nat
  n : Nd
  f : List (Bytes × Nat)

structure Dirs where
  t : Tab
  l : List Ent
  next : Nat

def fileItems (n : Nd) : List It := (items n).filter fun x => x.n.kind == kFile
def needNd (n : Nd) : Nat := ((fileItems n).map fun x => needB x.n.data.length).sum

/-- Each file a Make. -/
def makeAll (t : Tab) : List It → Except Nat (List (Bytes × Nat) × Tab)
  | [] => .ok ([], t)
  | x :: r =>
    match t.make x.n.data x.n.exec with
    | .error e => .error e
    | .ok (n, t1) =>
      match makeAll t1 r with
      | .error e => .error e
      | .ok (l, t2) => .ok ((told x.path, n) :: l, t2)

def Dirs.put (d : Dirs) (n : Nd) : Except Nat (Nat × Dirs) :=
  if treeErr n ≠ 0 then .error (treeErr n)
  else if d.t.free.length < needNd n then .error 8
  else match makeAll d.t (fileItems n) with
    | .error e => .error e
    | .ok (f, t) => .ok (d.next, { t := t, l := d.l ++ [⟨d.next, bareNd n, f⟩], next := d.next + 1 })

def entOf (l : List Ent) (k : Nat) : Option Ent := l.find? fun e => e.k == k
def numAt (f : List (Bytes × Nat)) (s : Bytes) : Option Nat := (f.find? fun p => p.1 == s).map (·.2)

mutual
/-- A tree with its files' bytes. -/
def fillNd (t : Tab) (f : List (Bytes × Nat)) : Nd → Bytes → Except Nat Nd
  | .mk k d e ks, p =>
    if k = kFile then
      match t.read ((numAt f (told p)).getD 0) with
      | .ok s => .ok (.mk k s e ks)
      | .error c => .error c
    else match fillKids t f ks p with
      | .ok l => .ok (.mk k d e l)
      | .error c => .error c
def fillKids (t : Tab) (f : List (Bytes × Nat)) : List (Bytes × Nd) → Bytes → Except Nat (List (Bytes × Nd))
  | [], _ => .ok []
  | (nm, x) :: r, p =>
    match fillNd t f x (p ++ 47 :: nm) with
    | .error c => .error c
    | .ok y => match fillKids t f r p with
      | .error c => .error c
      | .ok l => .ok ((nm, y) :: l)
end

def Dirs.get (d : Dirs) (k : Nat) : Except Nat Nd :=
  match entOf d.l k with
  | none => .error 6
  | some e => fillNd d.t e.f e.n []

def unlinkAll (t : Tab) : List (Bytes × Nat) → Tab
  | [] => t
  | (_, n) :: r => unlinkAll (match t.unlink n with | .ok t1 => t1 | .error _ => t) r

def Dirs.drop (d : Dirs) (k : Nat) : Except Nat Dirs :=
  match entOf d.l k with
  | none => .error 6
  | some e => .ok { d with t := unlinkAll d.t e.f, l := d.l.filter fun x => x.k != k }

/-! ### what is alike, once -/
/-- The least inode that is like this one, if it is less. -/
def Tab.lesser (t : Tab) (n : Nat) : Option Nat :=
  match t.read n with
  | .error _ => none
  | .ok s => (List.range n).find? fun m => match t.read m with | .error _ => false | .ok r => r == s && ((t.at_ m).map (·.exec)) == ((t.at_ n).map (·.exec))

/-- The first file that should be another inode: its tree, its path, its inode, the other one. -/
def stepOf (t : Tab) : List Ent → Option (Nat × Bytes × Nat × Nat)
  | [] => none
  | e :: r =>
    match e.f.findSome? (fun p => (t.lesser p.2).map fun m => (e.k, p.1, p.2, m)) with
    | some x => some x
    | none => stepOf t r

def setFile (f : List (Bytes × Nat)) (s : Bytes) (n : Nat) : List (Bytes × Nat) := f.map fun p => if p.1 = s then (p.1, n) else p

/-- One step: a file becomes another inode. -/
def Dirs.step (d : Dirs) : Option Dirs :=
  match stepOf d.t d.l with
  | none => none
  | some (k, s, was, n) =>
    let t1 := match d.t.link n with | .ok t => t | .error _ => d.t
    let t2 := match t1.unlink was with | .ok t => t | .error _ => t1
    some { d with t := t2, l := d.l.map fun e => if e.k = k then { e with f := setFile e.f s n } else e }

/-- Steps, so many at most: how many there were. -/
def Dirs.merge : Nat → Dirs → Nat × Dirs
  | 0, d => (0, d)
  | f + 1, d => match d.step with | none => (0, d) | some d1 => ((Dirs.merge f d1).1 + 1, (Dirs.merge f d1).2)

/-- The sum of all files' numbers: each step makes it less. -/
def Dirs.weight (d : Dirs) : Nat := (d.l.map fun e => (e.f.map (·.2)).sum).sum
def Dirs.mergeAll (d : Dirs) : Nat × Dirs := Dirs.merge d.weight d

def Tab.saved (t : Tab) : Nat := (t.l.map fun | some x => (x.links - 1) * x.blocks.length | none => 0).sum

/-! ### what packs need -/
/-- A pack: its name, whom it needs, its tree's number. -/
structure Pk where
  name : Bytes
  refs : List Bytes
  k : Nat

/-- What is needed by these, the last pack first. -/
def closeOver : List Pk → List Bytes → List Bytes
  | [], out => out
  | p :: r, out => closeOver r (if out.contains p.name then insAll p.refs out else out)

def closure (l : List Pk) (names : List Bytes) : List Bytes := closeOver l.reverse (insAll names [])
def usersOf (l : List Pk) (s : Bytes) : List Bytes := insAll ((l.filter fun p => p.name != s && p.refs.contains s).map (·.name)) []
def deadOf (l : List Pk) (roots : List Bytes) : List Bytes := (l.reverse.filter fun p => !(closure l roots).contains p.name).map (·.name)

/-- Names that are mentioned in a tree. -/
def refsIn (n : Nd) (names : List Bytes) : List Bytes :=
  insAll (((items n).filter fun x => x.n.kind != kDir).flatMap fun x => found x.n.data names) []

/-! ### the store -/
structure Sto where
  d : Dirs
  l : List Pk
  roots : List Bytes

def Sto.new (blocks : Nat) : Sto := ⟨⟨⟨List.replicate blocks (List.replicate 16 0), []⟩, [], 0⟩, [], []⟩
def Sto.find (s : Sto) (name : Bytes) : Option Pk := s.l.find? fun p => p.name == name

def joinedB : List Bytes → Bytes
  | [] => [110, 111, 116, 104, 105, 110, 103]
  | [x] => x
  | x :: r => x ++ 32 :: joinedB r

def bOk : Bytes := [111, 107]

def Sto.add (s : Sto) (rest : Bytes) : Except Nat Sto :=
  match cutAt 32 rest with
  | none => .error 1
  | some (name, text) =>
    if isName name = false then .error 5
    else if (s.find name).isSome then .error 7
    else if 40 ≤ s.l.length then .error 8
    else match readTree text with
      | .error e => .error e
      | .ok n =>
        let l := refsIn n (s.l.map (·.name) ++ [name])
        if 20 < l.length then .error 8
        else match s.d.put n with
          | .error e => .error e
          | .ok (k, d) => .ok { s with d := d, l := s.l ++ [⟨name, l, k⟩] }

def dropDead (d : Dirs) (l : List Pk) : List Bytes → Dirs × List Pk
  | [] => (d, l)
  | nm :: r =>
    match l.find? fun p => p.name == nm with
    | none => dropDead d l r
    | some p => dropDead (match d.drop p.k with | .ok d1 => d1 | .error _ => d) (l.filter fun q => q.name != nm) r

def Sto.gc (s : Sto) : Nat × Sto :=
  let dead := deadOf s.l s.roots
  let x := dropDead s.d s.l dead
  (dead.length, { s with d := x.1, l := x.2 })

/-- A command that changes something: none: it is not one; else an error's number, or its answer and the store behind it. -/
def Sto.change (s : Sto) (line : Bytes) : Option (Except Nat (Bytes × Sto)) :=
  if line = [103, 99] then some (.ok (dec s.gc.1, s.gc.2))
  else if line = [111, 112, 116] then some (.ok (dec s.d.mergeAll.1, { s with d := s.d.mergeAll.2 }))
  else match cutAt 32 line with
    | none => none
    | some (word, rest) =>
      if word = [97, 100, 100] then some ((s.add rest).map fun x => (bOk, x))
      else if word = [114, 111, 111, 116] then
        some (if (s.find rest).isNone then .error 6 else if s.roots.contains rest then .error 7 else .ok (bOk, { s with roots := ins rest s.roots }))
      else if word = [117, 110, 114, 111, 111, 116] then
        some (if s.roots.contains rest then .ok (bOk, { s with roots := s.roots.filter fun x => x != rest }) else .error 6)
      else if word = [114, 111, 116] then
        some (match cutAt 32 rest with
          | none => .error 1
          | some (a, b) => match numberOf a 6, numberOf b 6 with
            | some k, some bit => (s.d.t.rot k bit).map fun t => (bOk, { s with d := { s.d with t := t } })
            | _, _ => .error 1)
      else if word = [109, 101, 110, 100] then
        some (match cutAt 32 rest with
          | none => .error 1
          | some (a, data) => match numberOf a 6 with
            | some n => (s.d.t.mend n data).map fun t => (bOk, { s with d := { s.d with t := t } })
            | none => .error 1)
      else none

def Sto.tree (s : Sto) (name : Bytes) : Except Nat Nd :=
  match s.find name with
  | none => .error 6
  | some p => s.d.get p.k

/-- What is told of a node. -/
def tellNd (x : Nd) : Bytes :=
  if x.kind = kFile then x.data else if x.kind = kLink then 45 :: 62 :: x.data else joinedB (x.kids.map (·.1))

def Sto.read (s : Sto) (rest : Bytes) : Except Nat Bytes :=
  match cutAt 32 rest with
  | none => .error 1
  | some (name, p) =>
    match s.tree name with
    | .error e => .error e
    | .ok n => (getPath n p).map tellNd

def Sto.where_ (s : Sto) (n : Nat) : Bytes :=
  joinedB (s.l.flatMap fun p => match entOf s.d.l p.k with
    | none => []
    | some e => (e.f.filter fun q => q.2 == n).map fun q => p.name ++ q.1)

/-- A question: its answer, or an error's number. -/
def Sto.tell (s : Sto) (line : Bytes) : Except Nat Bytes :=
  if line = [108, 105, 115, 116] then .ok (joinedB (s.l.map (·.name)))
  else if line = [114, 111, 111, 116, 115] then .ok (joinedB s.roots)
  else if line = [102, 114, 101, 101] then .ok (dec s.d.t.free.length)
  else if line = [115, 97, 118, 101, 100] then .ok (dec s.d.t.saved)
  else if line = [115, 99, 97, 110] then .ok (joinedB (s.d.t.scan.map dec))
  else match cutAt 32 line with
    | none => .error 1
    | some (word, rest) =>
      if word = [114, 101, 97, 100] then s.read rest
      else if word = [114, 101, 102, 115] then (match s.find rest with | none => .error 6 | some p => .ok (joinedB p.refs))
      else if word = [117, 115, 101, 114, 115] then (if (s.find rest).isNone then .error 6 else .ok (joinedB (usersOf s.l rest)))
      else if word = [110, 101, 101, 100] then (if (s.find rest).isNone then .error 6 else .ok (joinedB (closure s.l [rest])))
      else if word = [119, 104, 101, 114, 101] then (match numberOf rest 6 with | none => .error 1 | some n => .ok (s.where_ n))
      else .error 1

/-! ### a tape -/
structure Tape where
  b : Bytes
  off : Bool
  cut : Option Nat

def record (s : Bytes) : Bytes := dec s.length ++ 58 :: (s ++ [10, 46])

def Tape.setCut (t : Tape) (n : Nat) : Except Nat Tape := if t.off then .error 13 else .ok { t with cut := some n }

/-- A record more: an error's number (0: none), and the tape behind it. -/
def Tape.append (t : Tape) (s : Bytes) : Nat × Tape :=
  if 20000 < s.length then (2, t)
  else if 1048576 < t.b.length + (record s).length then (8, t)
  else if t.off then (13, t)
  else match t.cut with
    | none => (0, { t with b := t.b ++ record s })
    | some n => if n < (record s).length then (13, { t with b := t.b ++ (record s).take n, off := true }) else (0, { t with b := t.b ++ record s, cut := some (n - (record s).length) })

/-- One record at the beginning, and how many bytes it has. -/
def oneRec (b : Bytes) : Option Bytes :=
  match cutAt 58 b with
  | none => none
  | some (d, rest) =>
    match numberOf d 9 with
    | none => none
    | some n => if 20000 < n ∨ rest.length < n + 2 ∨ (rest.drop n).take 2 ≠ [10, 46] then none else some (rest.take n)

/-- Records from the beginning, so many at most, and how many bytes they have. -/
def readTape : Nat → Bytes → List Bytes × Nat
  | 0, _ => ([], 0)
  | f + 1, b =>
    match oneRec b with
    | none => ([], 0)
    | some s => (s :: (readTape f (b.drop (record s).length)).1, (record s).length + (readTape f (b.drop (record s).length)).2)

def Tape.recover (t : Tape) : List Bytes × Tape :=
  let x := readTape (t.b.length + 1) t.b
  (x.1, ⟨t.b.take x.2, false, none⟩)

/-- Do a line: an error's number, or its answer; and the store and the tape behind it. -/
def doLine (s : Sto) (t : Tape) (line : Bytes) : Except Nat Bytes × Sto × Tape :=
  match s.change line with
  | none => (s.tell line, s, t)
  | some (.error e) => (.error e, s, t)
  | some (.ok (a, s1)) =>
    if (t.append line).1 = 0 then (.ok a, s1, (t.append line).2) else (.error (t.append line).1, s, (t.append line).2)

/-- Records done again: the number of the first that fails, with its error; or the store. -/
def replay : Nat → Sto → List Bytes → Except (Nat × Nat) Sto
  | _, s, [] => .ok s
  | i, s, line :: r =>
    match s.change line with
    | some (.ok (_, s1)) => replay (i + 1) s1 r
    | some (.error e) => .error (i, e)
    | none => match s.tell line with
      | .error e => .error (i, e)
      | .ok _ => replay (i + 1) s r
end Stl
