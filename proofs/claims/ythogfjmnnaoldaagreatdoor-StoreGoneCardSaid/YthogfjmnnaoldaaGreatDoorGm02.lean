/- Texts of this claim, merged: TabPure, DirsPure, PathsPure. -/
import Derived.Test.YthogfjmnnaoldaaGreatDoorGm01
set_option maxHeartbeats 16000000
set_option maxRecDepth 1000000
set_option linter.all false
namespace Stl
structure qBj (t:Tab):Prop where
 whole:∀ b∈t.disk,b.length=16
 nodup:∀ n x,t.at_ n=some x→x.blocks.Nodup
 inside:∀ n x,t.at_ n=some x→∀ k∈x.blocks,k<t.disk.length
 need:∀ n x,t.at_ n=some x→x.blocks.length=qAA x.bytes
 links:∀ n x,t.at_ n=some x→1≤x.links
 bytes:∀ n x,t.at_ n=some x→x.bytes≤2000
 apart:∀ n m x y k,t.at_ n=some x→t.at_ m=some y→k∈x.blocks→k∈y.blocks→n=m
theorem qEi {t:Tab} {n:Nat} {x:Ino} (h:t.at_ n=some x):n<t.l.length:=by
 unfold Tab.at_ at h
 rcases zw n t.l.length with h2 | h2
 ·exact h2
 ·rw [List.getElem?_eq_none h2] at h;cases h
theorem qAr {t:Tab} {k:Nat}:t.isUsed k=true↔∃ n x,t.at_ n=some x∧k∈x.blocks:=by
 unfold Tab.isUsed Tab.at_
 rw [List.any_eq_true]
 constructor
 ·rintro ⟨o,ho,h⟩
  cases o with
  | none=>cases h
  | some x =>
   obtain ⟨n,hn⟩:=List.getElem?_of_mem ho
   exact ⟨n,x,by rw [hn];rfl,by simpa using h⟩
 ·rintro ⟨n,x,h,hk⟩
  refine ⟨some x,?_,by simpa using hk⟩
  cases ho:t.l[n]? with
  | none=>rw [ho] at h;cases h
  | some o =>
   rw [ho] at h
   have e:o=some x:=h
   subst e
   exact List.mem_of_getElem? ho
theorem qOO {t:Tab} {k:Nat}:k∈t.free↔k<t.disk.length∧t.isUsed k=false:=by
 unfold Tab.free
 rw [zb,List.mem_range]
 simp
theorem qEF (t:Tab):t.free.Nodup:=List.Pairwise.filter _ List.nodup_range
theorem qCc:∀ l:List (Option Ino),firstFree l≤l.length
 | []=>by simp [firstFree]
 | none::_=>by simp [firstFree]
 | some _::r=>by have:=qCc r;simp [firstFree];omega
theorem qDJ:∀ l:List (Option Ino),(l[firstFree l]?).join=none
 | []=>rfl
 | none::_=>rfl
 | some _::r=>by simpa [firstFree] using qDJ r
theorem qDh:∀ (l:List (Option Ino)) (n:Nat),n<firstFree l→((l[n]?).join).isSome=true
 | [],n,h=>by simp [firstFree] at h
 | none::_,n,h=>by simp [firstFree] at h
 | some x::r,0,_=>rfl
 | some x::r,n+1,h=>by simpa using qDh r n (by simpa [firstFree] using h)
theorem qOt (l:List (Option Ino)) (n:Nat) (x:Ino) (hn:n≤l.length) (m:Nat):((putAt l n x)[m]?).join=if m=n then some x else (l[m]?).join:=by
 unfold putAt
 split
 ·rename_i h
  rw [List.getElem?_set]
  by_cases e:n=m
  ·subst e;simp [h]
  ·rw [zM1 e,zM1 (Ne.symm e)]
 ·have e:n=l.length:=by omega
  subst e
  rcases Nat.lt_trichotomy m l.length with h | h | h
  ·rw [List.getElem?_append_left h,zM1 (by omega)]
  ·subst h;simp
  ·rw [zM1 (by omega),List.getElem?_eq_none (by simp;omega),List.getElem?_eq_none (by omega)]
theorem qGK (l:List (Option Ino)) (n:Nat) (o:Option Ino) (hn:n<l.length) (m:Nat):((l.set n o)[m]?).join=if m=n then o else (l[m]?).join:=by
 rw [List.getElem?_set]
 by_cases e:n=m
 ·subst e;simp [hn]
 ·rw [zM1 e,zM1 (Ne.symm e)]
theorem qAJ:∀ (ks:List Nat) (disk:List Bytes) (s:Bytes),(qBu disk ks s).length=disk.length
 | [],_,_=>rfl
 | k::r,disk,s=>by simp [qBu,qAJ r]
theorem qFt (s:Bytes) (h:s.length≤16):(qHM s).length=16:=by simp [qHM];omega
theorem qC3:∀ (ks:List Nat) (disk:List Bytes) (s:Bytes),(∀ b∈disk,b.length=16)→∀ b∈qBu disk ks s,b.length=16
 | [],disk,s,h=>h
 | k::r,disk,s,h=>by
  refine qC3 r _ _ fun b hb=>?_
  rcases List.mem_or_eq_of_mem_set hb with h2 | h2
  ·exact h b h2
  ·rw [h2];exact qFt _ (by simp;omega)
theorem qCU:∀ (ks:List Nat) (disk:List Bytes) (s:Bytes) (k:Nat),k∉ks→(qBu disk ks s)[k]?=disk[k]?
 | [],_,_,_,_=>rfl
 | j::r,disk,s,k,h=>by
  simp only [za,not_or] at h
  rw [qBu,qCU r _ _ k h.2,List.getElem?_set_ne (Ne.symm h.1)]
theorem qFX:∀ (ks:List Nat) (disk:List Bytes) (s:Bytes),ks.Nodup→(∀ k∈ks,k<disk.length)→ks.length=qAA s.length →
  ((ks.map fun k=>(qBu disk ks s).getD k []).flatten).take s.length=s
 | [],disk,s,_,_,hl=>by
  have:s.length=0:=by simp [qAA] at hl;omega
  have:s=[]:=zI this
  subst this
  rfl
 | k::r,disk,s,hn,hi,hl=>by
  obtain ⟨h1,h2⟩:=List.nodup_cons.1 hn
  have hlen:s.length≥1:=by simp [qAA] at hl;omega
  have e1:(qBu disk (k::r) s).getD k []=qHM (s.take 16):=by
   rw [List.getD_eq_getElem?_getD,qBu,qCU r _ _ k h1,List.getElem?_set_self (hi k (by simp))]
   rfl
  have ih:=qFX r (disk.set k (qHM (s.take 16))) (s.drop 16) h2 (fun j hj=>by simp;exact hi j (by simp [hj])) (by simp [qAA] at hl ⊢;omega)
  rw [zX,List.flatten_cons,e1]
  rw [show (r.map fun j=>(qBu disk (k::r) s).getD j [])=r.map fun j=>(qBu (disk.set k (qHM (s.take 16))) r (s.drop 16)).getD j [] from rfl]
  rcases zw s.length 17 with h17 | h17
  ·have e2:s.take 16=s:=zo (by omega)
   rw [e2]
   have:(qHM s).length=16:=qFt _ (by omega)
   rw [zm (by omega)]
   simp [qHM]
  ·have e3:qHM (s.take 16)=s.take 16:=by simp [qHM];omega
   rw [e3] at ih ⊢
   rw [List.take_append,show (s.take 16).length=16 by simp;omega,zo (by simp;omega)]
   have e4:s.length-16=(s.drop 16).length:=by simp
   rw [e4,ih,List.take_append_drop]
theorem qMI {t t':Tab} {x:Ino} (h:∀ k∈x.blocks,t'.disk[k]?=t.disk[k]?):t'.raw x=t.raw x:=by
 unfold Tab.raw
 have:(x.blocks.map fun k=>t'.disk.getD k [])=x.blocks.map fun k=>t.disk.getD k []:=by
  apply List.map_congr_left
  intro k hk
  rw [List.getD_eq_getElem?_getD,List.getD_eq_getElem?_getD,h k hk]
 rw [this]
section make
variable {t t':Tab} {data:Bytes} {exec:Bool} {n:Nat}
theorem qBb (h:t.make data exec=.ok (n,t')):data.length≤2000∧qAA data.length≤t.free.length∧n=firstFree t.l ∧
  t'={ disk:=qBu t.disk (t.free.take (qAA data.length)) data,l:=putAt t.l (firstFree t.l) ⟨data.length,1,exec,t.free.take (qAA data.length),crc data⟩ }:=by
 unfold Tab.make at h
 split at h
 ·cases h
 ·split at h
  ·cases h
  ·injection h with h
   injection h with h1 h2
   exact ⟨by omega,by omega,h1.symm,h2.symm⟩
theorem qDl (h:t.make data exec=.ok (n,t')) (m:Nat):t'.at_ m=if m=n then some ⟨data.length,1,exec,t.free.take (qAA data.length),crc data⟩ else t.at_ m:=by
 obtain ⟨_,_,rfl,rfl⟩:=qBb h
 exact qOt _ _ _ (qCc _) m
theorem qEr (h:t.make data exec=.ok (n,t')):t.at_ n=none:=by
 obtain ⟨_,_,rfl,_⟩:=qBb h
 exact qDJ _
theorem qC1 {k:Nat} {m:Nat} (hk:k∈t.free.take m):k<t.disk.length∧t.isUsed k=false:=qOO.1 (List.mem_of_mem_take hk)
theorem qJO (ht:qBj t) (h:t.make data exec=.ok (n,t')):qBj t':=by
 have hat:=qDl h
 have hwas:=qEr h
 obtain ⟨hd,hf,en,et⟩:=qBb h
 have hdl:t'.disk.length=t.disk.length:=by rw [et];exact qAJ _ _ _
 have hnew:∀ m x,t.at_ m=some x→∀ k∈x.blocks,k∉t.free.take (qAA data.length):=by
  intro m x hx k hk hk2
  have:=(qC1 hk2).2
  rw [qAr.2 ⟨m,x,hx,hk⟩] at this
  cases this
 constructor
 ·rw [et];exact qC3 _ _ _ ht.whole
 ·intro m x hx
  rw [hat] at hx
  split at hx
  ·injection hx with hx;subst hx;exact ((List.take_sublist _ _).nodup (qEF t))
  ·exact ht.nodup m x hx
 ·intro m x hx k hk
  rw [hat] at hx
  rw [hdl]
  split at hx
  ·injection hx with hx;subst hx;exact (qC1 hk).1
  ·exact ht.inside m x hx k hk
 ·intro m x hx
  rw [hat] at hx
  split at hx
  ·injection hx with hx;subst hx;simp;omega
  ·exact ht.need m x hx
 ·intro m x hx
  rw [hat] at hx
  split at hx
  ·injection hx with hx;subst hx;simp
  ·exact ht.links m x hx
 ·intro m x hx
  rw [hat] at hx
  split at hx
  ·injection hx with hx;subst hx;exact hd
  ·exact ht.bytes m x hx
 ·intro a b x y k hx hy hk1 hk2
  rw [hat] at hx hy
  by_cases ha:a=n<;>by_cases hb:b=n
  ·rw [ha,hb]
  ·rw [zN1 ha] at hx
   rw [zM1 hb] at hy
   injection hx with hx
   subst hx
   exact absurd hk1 (hnew b y hy k hk2)
  ·rw [zM1 ha] at hx
   rw [zN1 hb] at hy
   injection hy with hy
   subst hy
   exact absurd hk2 (hnew a x hx k hk1)
  ·rw [zM1 ha] at hx
   rw [zM1 hb] at hy
   exact ht.apart a b x y k hx hy hk1 hk2
theorem qIv (ht:qBj t) (h:t.make data exec=.ok (n,t')):t'.read n=.ok data:=by
 have hat:=qDl h n
 obtain ⟨hd,hf,en,et⟩:=qBb h
 rw [zN1 rfl] at hat
 unfold Tab.read
 rw [hat]
 have hr:t'.raw ⟨data.length,1,exec,t.free.take (qAA data.length),crc data⟩=data:=by
  unfold Tab.raw
  rw [et]
  exact qFX _ _ _ ((List.take_sublist _ _).nodup (qEF t)) (fun k hk=>(qC1 hk).1) (by simp;omega)
 simp only [hr]
 simp
theorem qC5 (ht:qBj t) (h:t.make data exec=.ok (n,t')) {m:Nat} (hm:m≠n):t'.read m=t.read m:=by
 have hat:=qDl h m
 obtain ⟨hd,hf,en,et⟩:=qBb h
 rw [zM1 hm] at hat
 unfold Tab.read
 rw [hat]
 cases hx:t.at_ m with
 | none=>rfl
 | some x =>
  have hr:t'.raw x=t.raw x:=qMI fun k hk=>by
   rw [et]
   refine qCU _ _ _ _ fun hk2=>?_
   have:=(qC1 hk2).2
   rw [qAr.2 ⟨m,x,hx,hk⟩] at this
   cases this
  simp only [hr]
theorem qFf (ht:qBj t) (h:t.make data exec=.ok (n,t')):t'.free.length+qAA data.length=t.free.length:=by
 have hat:=qDl h
 have hwas:=qEr h
 obtain ⟨hd,hf,en,et⟩:=qBb h
 have hdl:t'.disk.length=t.disk.length:=by rw [et];exact qAJ _ _ _
 have hu:∀ k,k<t.disk.length→(t'.isUsed k=true↔t.isUsed k=true∨k∈t.free.take (qAA data.length)):=by
  intro k hk
  rw [qAr,qAr]
  constructor
  ·rintro ⟨m,x,hx,hkx⟩
   rw [hat] at hx
   split at hx
   ·injection hx with hx;subst hx;exact .inr hkx
   ·exact .inl ⟨m,x,hx,hkx⟩
  ·rintro (⟨m,x,hx,hkx⟩ | hk2)
   ·refine ⟨m,x,?_,hkx⟩
    rw [hat,zM1 (fun e=>by rw [e,hwas] at hx;cases hx)]
    exact hx
   ·exact ⟨n,_,by rw [hat,zN1 rfl],hk2⟩
 have e:t'.free=t.free.drop (qAA data.length):=by
  have hsplit:=List.take_append_drop (qAA data.length) t.free
  have hnd:=qEF t
  rw [← hsplit] at hnd
  have hdis:=(List.nodup_append.1 hnd).2.2
  have e1:t'.free=t.free.filter fun k=>!(t.free.take (qAA data.length)).contains k:=by
   unfold Tab.free
   rw [hdl,List.filter_filter]
   apply List.filter_congr
   intro k hk
   have:=hu k (by simpa using hk)
   cases h1:t'.isUsed k<;>cases h2:t.isUsed k<;>simp [h1,h2] at this ⊢<;>simpa [Tab.free] using this
  rw [e1]
  conv=>lhs;rw [← hsplit]
  rw [List.filter_append,hsplit]
  have a1:(t.free.take (qAA data.length)).filter (fun k=>!(t.free.take (qAA data.length)).contains k)=[]:=by
   rw [List.filter_eq_nil_iff]
   intro k hk
   simp [hk]
  have a2:(t.free.drop (qAA data.length)).filter (fun k=>!(t.free.take (qAA data.length)).contains k)=t.free.drop (qAA data.length):=by
   rw [List.filter_eq_self]
   intro k hk
   have:k∉t.free.take (qAA data.length):=fun hk2=>hdis k hk2 k hk rfl
   simpa using this
  rw [a1,a2,zj]
 rw [e,List.length_drop]
 omega
theorem qLX (h1:data.length≤2000) (h2:qAA data.length≤t.free.length):∃ n t',t.make data exec=.ok (n,t'):=by
 unfold Tab.make
 rw [zM1 (by omega),zM1 (by omega)]
 exact ⟨_,_,rfl⟩
end make
section link
variable {t t':Tab} {n:Nat}
theorem qBV (h:t.link n=.ok t'):∃ x,t.at_ n=some x∧t'={ t with l:=t.l.set n (some { x with links:=x.links+1 }) }:=by
 unfold Tab.link at h
 cases hx:t.at_ n with
 | none=>rw [hx] at h;cases h
 | some x=>rw [hx] at h;injection h with h;exact ⟨x,rfl,h.symm⟩
theorem qDS {x:Ino} (hx:t.at_ n=some x) (h:t.link n=.ok t') (m:Nat):t'.at_ m=if m=n then some { x with links:=x.links+1 } else t.at_ m:=by
 obtain ⟨y,hy,rfl⟩:=qBV h
 rw [hx] at hy
 injection hy with hy
 subst hy
 exact qGK _ _ _ (qEi hx) m
theorem qLh {x:Ino} (hx:t.at_ n=some x):∃ t',t.link n=.ok t':=by
 unfold Tab.link;rw [hx];exact ⟨_,rfl⟩
theorem qBp (h:t.unlink n=.ok t'):∃ x,t.at_ n=some x∧t'={ t with l:=t.l.set n (if x.links=1 then none else some { x with links:=x.links-1 }) }:=by
 unfold Tab.unlink at h
 cases hx:t.at_ n with
 | none=>rw [hx] at h;cases h
 | some x=>rw [hx] at h;injection h with h;exact ⟨x,rfl,h.symm⟩
theorem qDi {x:Ino} (hx:t.at_ n=some x) (h:t.unlink n=.ok t') (m:Nat):t'.at_ m=if m=n then (if x.links=1 then none else some { x with links:=x.links-1 }) else t.at_ m:=by
 obtain ⟨y,hy,rfl⟩:=qBp h
 rw [hx] at hy
 injection hy with hy
 subst hy
 exact qGK _ _ _ (qEi hx) m
theorem qE8 {x:Ino} (hx:t.at_ n=some x):∃ t',t.unlink n=.ok t':=by
 unfold Tab.unlink;rw [hx];exact ⟨_,rfl⟩
theorem qGC {t t':Tab} (ht:qBj t) (hd:t'.disk=t.disk) (h:∀ m y,t'.at_ m=some y→∃ x,t.at_ m=some x∧y.blocks=x.blocks∧y.bytes=x.bytes∧1≤y.links):qBj t':=by
 constructor
 ·rw [hd];exact ht.whole
 ·intro m y hy;obtain ⟨x,hx,e1,_⟩:=h m y hy;rw [e1];exact ht.nodup m x hx
 ·intro m y hy;obtain ⟨x,hx,e1,_⟩:=h m y hy;rw [e1,hd];exact ht.inside m x hx
 ·intro m y hy;obtain ⟨x,hx,e1,e2,_⟩:=h m y hy;rw [e1,e2];exact ht.need m x hx
 ·intro m y hy;obtain ⟨x,hx,_,_,e3⟩:=h m y hy;exact e3
 ·intro m y hy;obtain ⟨x,hx,_,e2,_⟩:=h m y hy;rw [e2];exact ht.bytes m x hx
 ·intro a b y z k hy hz h1 h2
  obtain ⟨x,hx,e1,_⟩:=h a y hy
  obtain ⟨u,hu,e2,_⟩:=h b z hz
  exact ht.apart a b x u k hx hu (by rw [← e1];exact h1) (by rw [← e2];exact h2)
theorem qMg (ht:qBj t) (h:t.link n=.ok t'):qBj t':=by
 obtain ⟨x,hx,e⟩:=qBV h
 refine qGC ht (by rw [e]) fun m y hy=>?_
 rw [qDS hx h] at hy
 split at hy
 ·rename_i em;injection hy with hy;subst hy;subst em
  exact ⟨x,hx,rfl,rfl,by simp⟩
 ·exact ⟨y,hy,rfl,rfl,ht.links m y hy⟩
theorem qIJ (ht:qBj t) (h:t.unlink n=.ok t'):qBj t':=by
 obtain ⟨x,hx,e⟩:=qBp h
 refine qGC ht (by rw [e]) fun m y hy=>?_
 rw [qDi hx h] at hy
 split at hy
 ·rename_i em
  split at hy
  ·cases hy
  ·injection hy with hy;subst hy;subst em
   have:=ht.links m x hx
   exact ⟨x,hx,rfl,rfl,by simp;omega⟩
 ·exact ⟨y,hy,rfl,rfl,ht.links m y hy⟩
theorem qEt {t t':Tab} (hd:t'.disk=t.disk) {m:Nat} {x y:Ino} (hx:t.at_ m=some x) (hy:t'.at_ m=some y) (h1:y.blocks=x.blocks) (h2:y.bytes=x.bytes) (h3:y.sum=x.sum):t'.read m=t.read m:=by
 unfold Tab.read
 rw [hx,hy]
 have:t'.raw y=t.raw x:=by unfold Tab.raw;rw [hd,h1,h2]
 simp only [this,h3]
theorem qIV (h:t.link n=.ok t') (m:Nat):t'.read m=t.read m:=by
 obtain ⟨x,hx,e⟩:=qBV h
 have ha:=qDS hx h m
 by_cases em:m=n
 ·subst em
  rw [zN1 rfl] at ha
  exact qEt (by rw [e]) hx ha rfl rfl rfl
 ·rw [zM1 em] at ha
  cases hm:t.at_ m with
  | none=>rw [hm] at ha;unfold Tab.read;rw [hm,ha]
  | some y=>rw [hm] at ha;exact qEt (by rw [e]) hm ha rfl rfl rfl
theorem qDN (h:t.unlink n=.ok t') {m:Nat} (hm:(t'.at_ m).isSome):t'.read m=t.read m:=by
 obtain ⟨x,hx,e⟩:=qBp h
 have ha:=qDi hx h m
 by_cases em:m=n
 ·subst em
  rw [zN1 rfl] at ha
  split at ha
  ·rw [ha] at hm;cases hm
  ·exact qEt (by rw [e]) hx ha rfl rfl rfl
 ·rw [zM1 em] at ha
  cases hm2:t.at_ m with
  | none=>rw [hm2] at ha;rw [ha] at hm;cases hm
  | some y=>rw [hm2] at ha;exact qEt (by rw [e]) hm2 ha rfl rfl rfl
end link
theorem qFb:∀ (xs:List It) (t:Tab) (f:List (Bytes×Nat)) (t':Tab),qBj t→makeAll t xs=.ok (f,t') →
  qBj t'∧f.map (·.1)=xs.map (fun x=>told x.path)∧(f.map (·.2)).Nodup∧(∀ m∈f.map (·.2),t.at_ m=none) ∧
   (∀ m,m∉f.map (·.2)→t'.at_ m=t.at_ m∧t'.read m=t.read m)∧(∀ m∈f.map (·.2),∃ y,t'.at_ m=some y∧y.links=1) ∧
   (∀ p∈f.zip xs,t'.read p.1.2=.ok p.2.n.data∧(t'.at_ p.1.2).map (·.exec)=some p.2.n.exec)∧t'.disk.length=t.disk.length
 | [],t,f,t',ht,h=>by
  simp only [makeAll] at h
  injection h with h
  injection h with h1 h2
  subst h1;subst h2
  exact ⟨ht,rfl,List.nodup_nil,by simp,fun _ _=>⟨rfl,rfl⟩,by simp,by simp,rfl⟩
 | x::r,t,f,t',ht,h=>by
  simp only [makeAll] at h
  cases hm:t.make x.n.data x.n.exec with
  | error e=>rw [hm] at h;cases h
  | ok q =>
   obtain ⟨n,t1⟩:=q
   rw [hm] at h
   simp only at h
   cases ha:makeAll t1 r with
   | error e=>rw [ha] at h;cases h
   | ok q2 =>
    obtain ⟨l,t2⟩:=q2
    rw [ha] at h
    injection h with h
    injection h with h1 h2
    subst h1;subst h2
    obtain ⟨i1,i2,i3,i4,i5,i6,i7,i8⟩:=qFb r t1 l t2 (qJO ht hm) ha
    have hat:=qDl hm
    have hwas:=qEr hm
    have hn:n∉l.map (·.2):=fun hn=>by
     have:=i4 n hn
     rw [hat,zN1 rfl] at this
     cases this
    have e5:=i5 n hn
    have hdl:t1.disk.length=t.disk.length:=by obtain ⟨_,_,_,et⟩:=qBb hm;rw [et];exact qAJ _ _ _
    refine ⟨i1,by simp [i2],?_,?_,?_,?_,?_,by rw [i8,hdl]⟩
    ·simp only [zX,List.nodup_cons];exact ⟨hn,i3⟩
    ·intro m hm2
     rcases za.1 hm2 with rfl | hm2
     ·exact hwas
     ·have:=i4 m hm2
      rw [hat] at this
      split at this
      ·cases this
      ·exact this
    ·intro m hm2
     simp only [zX,za,not_or] at hm2
     obtain ⟨j1,j2⟩:=i5 m hm2.2
     exact ⟨by rw [j1,hat,zM1 hm2.1],by rw [j2];exact qC5 ht hm hm2.1⟩
    ·intro m hm2
     rcases za.1 hm2 with rfl | hm2
     ·exact ⟨_,by rw [e5.1,hat,zN1 rfl],rfl⟩
     ·exact i6 m hm2
    ·intro p hp
     rw [List.zip_cons_cons] at hp
     rcases za.1 hp with rfl | hp
     ·exact ⟨by rw [e5.2];exact qIv ht hm,by rw [e5.1,hat,zN1 rfl];rfl⟩
     ·exact i7 p hp
theorem qCH:∀ (xs:List It) (t:Tab),qBj t→(∀ x∈xs,x.n.data.length≤2000)→(xs.map fun x=>qAA x.n.data.length).sum≤t.free.length→∃ f t',makeAll t xs=.ok (f,t')∧t'.free.length+(xs.map fun x=>qAA x.n.data.length).sum=t.free.length
 | [],t,_,_,_=>⟨[],t,rfl,by simp⟩
 | x::r,t,ht,h1,h2=>by
  simp only [zX,List.sum_cons] at h2 ⊢
  obtain ⟨n,t1,hm⟩:=qLX (t:=t) (exec:=x.n.exec) (h1 x (by simp)) (by omega)
  have hf:=qFf ht hm
  obtain ⟨l,t2,ha,hl⟩:=qCH r t1 (qJO ht hm) (fun y hy=>h1 y (by simp [hy])) (by omega)
  exact ⟨(told x.path,n)::l,t2,by simp only [makeAll,hm,ha],by omega⟩
def nums (l:List Ent):List Nat:=l.flatMap fun e=>e.f.map (·.2)
structure qAD (d:Dirs):Prop where
 tab:qBj d.t
 keys:d.l.Pairwise (fun a b=>a.k<b.k)
 next:∀ e∈d.l,e.k<d.next
 well:∀ e∈d.l,treeErr e.n=0
 bare:∀ e∈d.l,qAn e.n=e.n
 files:∀ e∈d.l,e.f.map (·.1)=qAx e.n
 links:∀ n x,d.t.at_ n=some x→x.links=(nums d.l).count n
 there:∀ n∈nums d.l,(d.t.at_ n).isSome
theorem qBM (k d:Bytes) (e:Bool) (nms:List Bytes):ownErrP k d e nms=0↔(k=kFile∨k=kDir∨k=kLink)∧(k≠kDir→nms=[])∧(k≠kFile→e=false)∧(k=kDir→d=[]) ∧
  d.length≤2000∧(k=kLink→1≤d.length∧d.length≤40∧∀ c∈d,33≤c∧c≤126)∧(∀ p∈nms,isName p=true)∧qCM nms=true:=by
 unfold ownErrP
 have hbyte:(d.any fun c=>decide (c<33)||decide (126<c))=false↔∀ c∈d,33≤c∧c≤126:=by
  rw [List.any_eq_false]
  constructor
  ·intro h c hc;have:=h c hc;simpa using this
  ·intro h c hc;have:=h c hc;simpa using this
 constructor
 ·intro h
  split at h
  ·cases h
  ·rename_i h1
   split at h
   ·cases h
   ·rename_i h2
    split at h
    ·cases h
    ·rename_i h3
     split at h
     ·cases h
     ·rename_i h4
      split at h
      ·cases h
      ·rename_i h5
       split at h
       ·cases h
       ·rename_i h6
        refine ⟨?_,?_,?_,?_,by omega,?_,?_,by simpa using h6⟩
        ·by_cases e1:k=kFile
         ·exact .inl e1
         ·by_cases e2:k=kDir
          ·exact .inr (.inl e2)
          ·by_cases e3:k=kLink
           ·exact .inr (.inr e3)
           ·exact absurd ⟨e1,e2,e3⟩ h1
        ·intro hk
         by_cases e1:nms=[]
         ·exact e1
         ·exact absurd (.inl ⟨hk,e1⟩) h2
        ·intro hk
         cases e
         ·rfl
         ·exact absurd (.inr (.inl ⟨hk,rfl⟩)) h2
        ·intro hk
         by_cases e1:d=[]
         ·exact e1
         ·exact absurd (.inr (.inr ⟨hk,e1⟩)) h2
        ·intro hk
         have h7:¬ (d.length<1∨40<d.length):=fun h=>h3 (.inr ⟨hk,h⟩)
         refine ⟨by omega,by omega,hbyte.1 ?_⟩
         cases hb:(d.any fun c=>decide (c<33)||decide (126<c))
         ·rfl
         ·exact absurd ⟨hk,hb⟩ h4
        ·have:nms.all isName=true:=by simpa using h5
         exact List.all_eq_true.1 this
 ·rintro ⟨a1,a2,a3,a4,a5,a6,a7,a8⟩
  rw [zM1 (fun h=>by rcases a1 with h1 | h1 | h1<;>simp [h1] at h),zM1,zM1,zM1,zM1,zM1]
  ·simp [a8]
  ·have:nms.all isName=true:=List.all_eq_true.2 a7
   simp [this]
  ·rintro ⟨h1,h2⟩
   rw [hbyte.2 (a6 h1).2.2] at h2
   cases h2
  ·rintro (h | ⟨h1,h2⟩)
   ·omega
   ·have:=a6 h1;omega
  ·rintro (⟨h1,h2⟩ | ⟨h1,h2⟩ | ⟨h1,h2⟩)
   ·exact h2 (a2 h1)
   ·rw [a3 h1] at h2;cases h2
   ·exact h2 (a4 h1)
mutual
theorem qJ6:∀ (n:Nd) (deep c:Nat),(∀ deep c,(chk ownErr n deep c).1=0→(chk ownErr (qAn n) deep c)=(chk ownErr n deep c))
 | .mk k d e ks,_,_=>fun deep c h=>by
  have hl:=qIF ks (deep+1) (c+1)
  unfold chk at h
  split at h
  ·simp at h
  ·rename_i h1
   split at h
   ·simp at h
   ·rename_i h2
    split at h
    ·rename_i h3
     have hs:(qAC ks).map (·.1)=ks.map (·.1):=qDz ks
     have ho:ownErr (qAn (.mk k d e ks))=0:=by
      have h3':ownErrP k d e (ks.map (·.1))=0:=h3
      obtain ⟨a1,a2,a3,a4,a5,a6,a7,a8⟩:=(qBM _ _ _ _).1 h3'
      show ownErrP k (if k=kFile then [] else d) e ((qAC ks).map (·.1))=0
      rw [hs]
      refine (qBM _ _ _ _).2 ⟨a1,a2,a3,fun h=>?_,?_,fun h=>?_,a7,a8⟩
      ·split
       ·rfl
       ·exact a4 h
      ·split
       ·simp
       ·exact a5
      ·rw [zM1 (fun e=>by rw [h] at e;revert e;decide)]
       exact a6 h
     unfold qAn at ho ⊢
     unfold chk
     rw [zM1 h1,zM1 h2,zN1 ho,zM1 h1,zM1 h2,zN1 h3]
     exact hl h
    ·rename_i h3
     exact absurd h h3
theorem qIF:∀ (l:List (Bytes×Nd)) (deep c:Nat),(chkL ownErr l deep c).1=0→chkL ownErr (qAC l) deep c=chkL ownErr l deep c
 | [],_,_,_=>rfl
 | (nm,x)::r,deep,c,h=>by
  have h1:=qJ6 x 0 0 deep c
  have h2:=qIF r deep (chk ownErr x deep c).2
  unfold chkL at h
  split at h
  ·rename_i h3
   simp only [qAC,chkL,h1 h3,h3,if_true]
   exact h2 h
  ·rename_i h3
   exact absurd h h3
theorem qDz:∀ l:List (Bytes×Nd),(qAC l).map (·.1)=l.map (·.1)
 | []=>rfl
 | (nm,x)::r=>by simp [qAC,qDz r]
end
theorem qER {n:Nd} (h:treeErr n=0):treeErr (qAn n)=0:=by
 unfold treeErr at h ⊢
 rw [qJ6 n 0 0 0 0 h]
 exact h
mutual
theorem qI7:∀ n:Nd,qAn (qAn n)=qAn n
 | .mk k d e ks=>by
  have h:=qEk ks
  simp only [qAn,h]
  split<;>rfl
theorem qEk:∀ l:List (Bytes×Nd),qAC (qAC l)=qAC l
 | []=>rfl
 | (nm,x)::r=>by simp [qAC,qI7 x,qEk r]
end
mutual
theorem qIk:∀ (n:Nd) (p:Bytes) (deep:Nat),flat (qAn n) p deep=(flat n p deep).map fun x=>⟨x.path,x.deep,qAn x.n⟩
 | .mk k d e ks,p,deep=>by
  have h:=qGu ks p (deep+1)
  simp only [qAn,flat,zX,h]
theorem qGu:∀ (l:List (Bytes×Nd)) (p:Bytes) (deep:Nat),flatL (qAC l) p deep=(flatL l p deep).map fun x=>⟨x.path,x.deep,qAn x.n⟩
 | [],_,_=>rfl
 | (nm,x)::r,p,deep=>by simp [qAC,flatL,qIk x,qGu r]
end
theorem qMj (n:Nd):(qAn n).kind=n.kind:=by cases n;rfl
theorem qIm {n:Nd} (h:treeErr n=0):qAx (qAn n)=qAx n:=by
 unfold qAx items
 rw [zN1 h,zN1 (qER h),qIk,List.filter_map,zY]
 have e1:((fun x:It=>x.n.kind==kFile)∘fun x:It=>(⟨x.path,x.deep,qAn x.n⟩:It))=fun x:It=>x.n.kind==kFile:=by
  funext x;simp [qMj]
 rw [e1]
 rfl
mutual
theorem qJ3:∀ (n:Nd) (deep c:Nat) (p:Bytes) (d:Nat),(chk ownErr n deep c).1=0→∀ x∈flat n p d,ownErr x.n=0
 | .mk k s e ks,deep,c,p,d,h=>by
  have hl:=qKB ks (deep+1) (c+1) p (d+1)
  unfold chk at h
  split at h
  ·simp at h
  ·split at h
   ·simp at h
   ·split at h
    ·rename_i h3
     intro x hx
     unfold flat at hx
     rcases za.1 hx with rfl | hx
     ·exact h3
     ·exact hl h x hx
    ·rename_i h3
     exact absurd h h3
theorem qKB:∀ (l:List (Bytes×Nd)) (deep c:Nat) (p:Bytes) (d:Nat),(chkL ownErr l deep c).1=0→∀ x∈flatL l p d,ownErr x.n=0
 | [],_,_,_,_,_=>by simp [flatL]
 | (nm,y)::r,deep,c,p,d,h=>by
  unfold chkL at h
  split at h
  ·rename_i h1
   have a:=qJ3 y deep c (p++47::nm) d h1
   have b:=qKB r deep (chk ownErr y deep c).2 p d h
   intro x hx
   unfold flatL at hx
   rcases zZ.1 hx with hx | hx
   ·exact a x hx
   ·exact b x hx
  ·rename_i h1
   exact absurd h h1
end
theorem qD0 {n:Nd} (h:treeErr n=0):∀ x∈flat n [] 0,ownErr x.n=0:=qJ3 n 0 0 [] 0 h
theorem qCg:∀ l:List Bytes,qCM l=true→l.Pairwise (·<·)
 | [],_=>List.Pairwise.nil
 | [a],_=>by simp
 | a::b::r,h=>by
  simp only [qCM,zD,decide_eq_true_eq] at h
  have ih:=qCg (b::r) h.2
  refine zk.2 ⟨fun y hy=>?_,ih⟩
  rcases za.1 hy with rfl | hy
  ·exact h.1
  ·exact qF9 h.1 ((zk.1 ih).1 y hy)
theorem qCE {s:Bytes} (h:isName s=true):47∉s:=fun hm=>by
 have:=List.all_eq_true.1 (qI9 h) 47 hm
 revert this
 decide
def qQV (r:Bytes):Prop:=r=[]∨∃ q,r=47::q
mutual
theorem qHT:∀ (n:Nd) (p:Bytes) (d:Nat),∀ x∈flat n p d,∃ r,x.path=p++r∧qQV r
 | .mk k s e ks,p,d=>by
  have hl:=qCs ks p (d+1)
  intro x hx
  unfold flat at hx
  rcases za.1 hx with rfl | hx
  ·exact ⟨[],by simp,.inl rfl⟩
  ·obtain ⟨nm,r,hnm,e,hg⟩:=hl x hx
   exact ⟨47::(nm++r),by rw [e],.inr ⟨_,rfl⟩⟩
theorem qCs:∀ (l:List (Bytes×Nd)) (p:Bytes) (d:Nat),∀ x∈flatL l p d,∃ nm r,nm∈l.map (·.1)∧x.path=p++47::(nm++r)∧qQV r
 | [],_,_=>by simp [flatL]
 | (nm,y)::r,p,d=>by
  have a:=qHT y (p++47::nm) d
  have b:=qCs r p d
  intro x hx
  unfold flatL at hx
  rcases zZ.1 hx with hx | hx
  ·obtain ⟨q,e,hg⟩:=a x hx
   exact ⟨nm,q,by simp,by rw [e];simp,hg⟩
  ·obtain ⟨nm',q,h1,h2,h3⟩:=b x hx
   exact ⟨nm',q,by simp [h1],h2,h3⟩
end
theorem qKu:∀ {a b r q:Bytes},47∉a→47∉b→qQV r→qQV q→a++r=b++q→a=b
 | [],[],_,_,_,_,_,_,_=>rfl
 | [],y::b,r,q,_,hb,hr,_,e=>by
  simp only [za,not_or] at hb
  rcases hr with rfl | ⟨s,rfl⟩
  ·simp at e
  ·simp at e;exact absurd e.1 hb.1
 | x::a,[],r,q,ha,_,_,hq,e=>by
  simp only [za,not_or] at ha
  rcases hq with rfl | ⟨s,rfl⟩
  ·simp at e
  ·simp at e;exact absurd e.1.symm ha.1
 | x::a,y::b,r,q,ha,hb,hr,hq,e=>by
  simp only [za,not_or] at ha hb
  simp only [zF,zE] at e
  rw [e.1,qKu ha.2 hb.2 hr hq e.2]
theorem qDZ {n:Nd} (h:ownErr n=0):(∀ p∈n.kids,isName p.1=true)∧(n.kids.map (·.1)).Pairwise (·<·):=by
 obtain ⟨_,_,_,_,_,_,a7,a8⟩:=(qBM _ _ _ _).1 h
 exact ⟨fun p hp=>a7 p.1 (zg hp),qCg _ a8⟩
theorem qFo {n:Nd} (h:ownErr n=0) (hk:n.kind=kFile):n.kids=[]∧n.data.length≤2000:=by
 obtain ⟨_,a2,_,_,a5,_,_,_⟩:=(qBM _ _ _ _).1 h
 have:=a2 (by rw [hk];decide)
 exact ⟨by simpa using this,a5⟩
mutual
theorem qGD:∀ (n:Nd) (p:Bytes) (d:Nat),(∀ x∈flat n p d,ownErr x.n=0)→((flat n p d).map (·.path)).Nodup
 | .mk k s e ks,p,d,h=>by
  have h0:ownErr (.mk k s e ks)=0:=h ⟨p,d,.mk k s e ks⟩ (by simp [flat])
  obtain ⟨hn,hr⟩:=qDZ h0
  have hl:=qFD ks p (d+1) (fun x hx=>h x (by simp [flat,hx])) hn hr
  unfold flat
  rw [zX,List.nodup_cons]
  refine ⟨fun hm=>?_,hl⟩
  obtain ⟨x,hx,e⟩:=zf.1 hm
  obtain ⟨nm,r,_,e2,_⟩:=qCs ks p (d+1) x hx
  have:=congrArg List.length (e.symm.trans e2)
  simp at this
theorem qFD:∀ (l:List (Bytes×Nd)) (p:Bytes) (d:Nat),(∀ x∈flatL l p d,ownErr x.n=0)→(∀ q∈l,isName q.1=true)→(l.map (·.1)).Pairwise (·<·)→((flatL l p d).map (·.path)).Nodup
 | [],_,_,_,_,_=>by simp [flatL]
 | (nm,y)::r,p,d,h,hn,hr=>by
  obtain ⟨r1,r2⟩:=zk.1 hr
  have a:=qGD y (p++47::nm) d (fun x hx=>h x (by simp [flatL,hx]))
  have b:=qFD r p d (fun x hx=>h x (by simp [flatL,hx])) (fun q hq=>hn q (by simp [hq])) r2
  unfold flatL
  rw [zW,List.nodup_append]
  refine ⟨a,b,fun u hu v hv e=>?_⟩
  subst e
  obtain ⟨x,hx,e1⟩:=zf.1 hu
  obtain ⟨z,hz,e2⟩:=zf.1 hv
  obtain ⟨q,e3,hg⟩:=qHT y (p++47::nm) d x hx
  obtain ⟨nm',q',hnm,e4,hg'⟩:=qCs r p d z hz
  have hs:nm++q=nm'++q':=by
   have h1:=e1.symm.trans e3
   have h2:=e2.symm.trans e4
   rw [h1] at h2
   simpa using h2
  obtain ⟨w,hw,ew⟩:=zf.1 hnm
  have hne:=qKu (qCE (hn (nm,y) (by simp))) (by rw [← ew];exact qCE (hn w (by simp [hw]))) hg hg' hs
  have:=r1 nm' hnm
  rw [← hne] at this
  exact blt_irrefl _ this
end
theorem qOQ {n:Nd} {x y:It} (hx:x∈flat n [] 0) (hy:y∈flat n [] 0) (e:told x.path=told y.path) (h:∀ x∈flat n [] 0,ownErr x.n=0):x.path=y.path:=by
 have key:∀ z∈flat n [] 0,z.path≠[47]:=by
  intro z hz e
  cases n with
  | mk k s e' ks =>
   unfold flat at hz
   rcases za.1 hz with rfl | hz
   ·simp at e
   ·obtain ⟨nm,r,hnm,e2,_⟩:=qCs ks [] 1 z hz
    rw [e] at e2
    simp at e2
    obtain ⟨w,hw,ew⟩:=zf.1 hnm
    have h0:ownErr (.mk k s e' ks)=0:=h ⟨[],0,.mk k s e' ks⟩ (by simp [flat])
    have:=qKe ((qDZ h0).1 w hw)
    rw [ew,e2.1] at this
    simp at this
 unfold told at e
 split at e<;>split at e
 ·rename_i h1 h2;rw [h1,h2]
 ·exact absurd e.symm (key y hy)
 ·exact absurd e (key x hx)
 ·exact e
theorem qBT (n:Nd):(qAx n).Nodup:=by
 unfold qAx items
 split
 ·rename_i h
  have ha:=qD0 h
  have hp:(flat n [] 0).Pairwise (fun x y=>x.path≠y.path):=by
   have:=qGD n [] 0 ha
   exact List.pairwise_map.1 this
  have hq:(flat n [] 0).Pairwise (fun x y=>told x.path≠told y.path):=by
   refine List.Pairwise.imp_of_mem (fun {x y} hx hy hne e=>hne (qOQ hx hy e ha)) hp
  exact List.pairwise_map.2 (hq.filter _)
 ·simp
theorem qED {f:List (Bytes×Nat)} {s:Bytes} (h:s∈f.map (·.1)):∃ n,qAG f s=some n∧(s,n)∈f:=by
 unfold qAG
 obtain ⟨p,hp,e⟩:=zf.1 h
 have hs:(f.find? fun p=>p.1==s).isSome:=by
  rw [List.find?_isSome]
  exact ⟨p,hp,by simp [e]⟩
 obtain ⟨q,hq⟩:=zA1.1 hs
 have h1:=List.find?_some hq
 have h2:=zh hq
 simp at h1
 exact ⟨q.2,by rw [hq];rfl,by rw [← h1];exact h2⟩
theorem qBn (a:Bytes) (m:Nat) (r:List (Bytes×Nat)) (s:Bytes):qAG ((a,m)::r) s=if a=s then some m else qAG r s:=by
 unfold qAG
 rw [List.find?_cons]
 by_cases e:a=s
 ·simp [e]
 ·have:((a,m).1==s)=false:=by simpa using e
  rw [this,zM1 e]
theorem qBs:∀ {f:List (Bytes×Nat)},(f.map (·.1)).Nodup→∀ {s:Bytes} {n:Nat},(s,n)∈f→qAG f s=some n
 | [],_,s,n,h=>by cases h
 | (a,m)::r,hn,s,n,h=>by
  simp only [zX,List.nodup_cons] at hn
  rw [qBn]
  rcases za.1 h with e | h
  ·injection e with e1 e2
   rw [zN1 e1.symm,e2]
  ·have:a≠s:=fun e=>hn.1 (by rw [e];exact zg (f:=(·.1)) h)
   rw [zM1 this]
   exact qBs hn.2 h
mutual
theorem qGq {t t':Tab} {f f':List (Bytes×Nat)}:∀ (n:Nd) (p:Bytes) (d:Nat),
  (∀ x∈flat n p d,x.n.kind=kFile→t'.read ((qAG f' (told x.path)).getD 0)=t.read ((qAG f (told x.path)).getD 0))→qA6 t' f' n p=qA6 t f n p
 | .mk k s e ks,p,d,h=>by
  have hl:=qDK (t:=t) (t':=t') (f:=f) (f':=f') ks p (d+1) (fun x hx=>h x (by simp [flat,hx]))
  unfold qA6
  by_cases hk:k=kFile
  ·rw [zN1 hk,zN1 hk,h ⟨p,d,.mk k s e ks⟩ (by simp [flat]) hk]
  ·rw [zM1 hk,zM1 hk,hl]
theorem qDK {t t':Tab} {f f':List (Bytes×Nat)}:∀ (l:List (Bytes×Nd)) (p:Bytes) (d:Nat),
  (∀ x∈flatL l p d,x.n.kind=kFile→t'.read ((qAG f' (told x.path)).getD 0)=t.read ((qAG f (told x.path)).getD 0))→qAZ t' f' l p=qAZ t f l p
 | [],_,_,_=>rfl
 | (nm,y)::r,p,d,h=>by
  have a:=qGq (t:=t) (t':=t') (f:=f) (f':=f') y (p++47::nm) d (fun x hx=>h x (by simp [flatL,hx]))
  have b:=qDK (t:=t) (t':=t') (f:=f) (f':=f') r p d (fun x hx=>h x (by simp [flatL,hx]))
  unfold qAZ
  rw [a,b]
end
mutual
theorem qIG {t:Tab} {f:List (Bytes×Nat)}:∀ (n:Nd) (p:Bytes) (d:Nat),(∀ x∈flat n p d,ownErr x.n=0) →
  (∀ x∈flat n p d,x.n.kind=kFile→t.read ((qAG f (told x.path)).getD 0)=.ok x.n.data)→qA6 t f (qAn n) p=.ok n
 | .mk k s e ks,p,d,h0,h=>by
  have hl:=qEE (t:=t) (f:=f) ks p (d+1) (fun x hx=>h0 x (by simp [flat,hx])) (fun x hx=>h x (by simp [flat,hx]))
  unfold qAn qA6
  by_cases hk:k=kFile
  ·have e1:=h ⟨p,d,.mk k s e ks⟩ (by simp [flat]) hk
   have e2:ks=[]:=(qFo (h0 ⟨p,d,.mk k s e ks⟩ (by simp [flat])) hk).1
   rw [zN1 hk,e1]
   simp only [Nd.data,e2,qAC]
  ·rw [zM1 hk,hl,zM1 hk]
theorem qEE {t:Tab} {f:List (Bytes×Nat)}:∀ (l:List (Bytes×Nd)) (p:Bytes) (d:Nat),(∀ x∈flatL l p d,ownErr x.n=0) →
  (∀ x∈flatL l p d,x.n.kind=kFile→t.read ((qAG f (told x.path)).getD 0)=.ok x.n.data)→qAZ t f (qAC l) p=.ok l
 | [],_,_,_,_=>rfl
 | (nm,y)::r,p,d,h0,h=>by
  have a:=qIG (t:=t) (f:=f) y (p++47::nm) d (fun x hx=>h0 x (by simp [flatL,hx])) (fun x hx=>h x (by simp [flatL,hx]))
  have b:=qEE (t:=t) (f:=f) r p d (fun x hx=>h0 x (by simp [flatL,hx])) (fun x hx=>h x (by simp [flatL,hx]))
  unfold qAC qAZ
  rw [a,b]
end
theorem qFw {d:Dirs} (hd:qAD d) {e:Ent} (he:e∈d.l) {x:It} (hx:x∈flat e.n [] 0) (hk:x.n.kind=kFile) :
  ∃ n,qAG e.f (told x.path)=some n∧n∈e.f.map (·.2)∧(d.t.at_ n).isSome:=by
 have hm:told x.path∈e.f.map (·.1):=by
  rw [hd.files e he]
  unfold qAx items
  rw [zN1 (hd.well e he)]
  exact zg (f:=fun x:It=>told x.path) (zb.2 ⟨hx,by simpa using hk⟩)
 obtain ⟨n,h1,h2⟩:=qED hm
 have h3:n∈e.f.map (·.2):=zg (f:=(·.2)) h2
 exact ⟨n,h1,h3,hd.there n (ze.2 ⟨e,he,h3⟩)⟩
theorem qA1 {l:List Ent} {k:Nat} {e:Ent} (h:qAh l k=some e):e∈l∧e.k=k:=by
 unfold qAh at h
 exact ⟨zh h,by simpa using List.find?_some h⟩
theorem qAs:∀ {l:List Ent},l.Pairwise (fun a b=>a.k<b.k)→∀ {e:Ent},e∈l→qAh l e.k=some e
 | [],_,e,h=>by cases h
 | x::r,hp,e,h=>by
  obtain ⟨p1,p2⟩:=zk.1 hp
  unfold qAh
  rw [List.find?_cons]
  rcases za.1 h with rfl | h
  ·simp
  ·have:(x.k==e.k)=false:=by have:=p1 e h;simp;omega
   rw [this]
   exact qAs p2 h
end Stl
