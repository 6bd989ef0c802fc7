/- Texts of this claim, merged: DelKept, DropPure, DropMem, Drop, StoKit. -/
import Derived.Deep.RegionLaw
import Derived.Test.YthogfjmnnaoldaaGreatDoorGm24
set_option maxHeartbeats 16000000
set_option maxRecDepth 1000000
set_option linter.all false
namespace Go.Proofs.YthogfjmnnaoldaaGreatDoor
open Go.RowKit Go.Maps Go.Sort Go.Shelf Stl
theorem qAP {w:World} {base:Nat} {e:TypeId} {size g n cap:Nat} {xs:List Value} (h:w.ownsRow base e size (.slice (some ⟨g,0,none⟩) n cap) n xs):∀ (vs:List Value) (o:Nat),o+vs.length≤xs.length →
  (w.setCells g o vs).ownsRow base e size (.slice (some ⟨g,0,none⟩) n cap) n (xs.take o++vs++xs.drop (o+vs.length))∧w.grownBy (w.setCells g o vs) (some g):=by
 intro vs
 induction vs generalizing w xs with
 | nil =>
  intro o _
  refine ⟨?_,⟨rfl,rfl,rfl,zr _,fun _ _ _=>rfl⟩⟩
  rw [show w.setCells g o []=w from rfl]
  simpa using h
 | cons v r ih =>
  intro o ho
  simp only [zS] at ho
  obtain ⟨h1,h2⟩:=h.stored o v
  obtain ⟨h3,h4⟩:=ih h1 (o+1) (by simp;omega)
  refine ⟨?_,⟨h4.os.trans h2.os,h4.tape.trans h2.tape,h4.output.trans h2.output,zt h2.size h4.size,fun k hk hne=>(h4.block k (zv hk h2.size) hne).trans (h2.block k hk hne)⟩⟩
  have e1:(xs.set o v).take (o+1)++r++(xs.set o v).drop (o+1+r.length)=xs.take o++v::r++xs.drop (o+(v::r).length):=by
   have hlt:o<xs.length:=by omega
   obtain ⟨a,x,b,rfl,rfl⟩:∃ a x b,xs=a++x::b∧a.length=o:=⟨xs.take o,xs[o],xs.drop (o+1),by rw [← zG hlt,List.take_append_drop],by rw [List.length_take];omega⟩
   rw [List.set_append_right _ _ (zr _),Nat.sub_self,List.set_cons_zero]
   have t1:(a++v::b).take (a.length+1)=a++[v]:=by rw [List.take_append,zo (by omega)];simp
   have t2:(a++v::b).drop (a.length+1+r.length)=b.drop r.length:=by rw [List.drop_append,zH (by omega)];simp [show a.length+1+r.length-a.length=r.length+1 by omega]
   have t3:(a++x::b).drop (a.length+(v::r).length)=b.drop r.length:=by rw [List.drop_append,zH (by simp)];simp [show a.length+(r.length+1)-a.length=r.length+1 by omega]
   rw [t1,t2,t3,List.take_left]
   simp
  rw [← e1]
  exact h3
theorem qBD {w:World} {base:Nat} {e:TypeId} {size g n m cap:Nat} {xs:List Value} (h:w.ownsRow base e size (.slice (some ⟨g,0,none⟩) n cap) n xs) (hm:m≤n):w.ownsRow base e size (.slice (some ⟨g,0,none⟩) m cap) m (xs.take (m*size)):=by
 have hl:=h.1
 rcases h.2 with ⟨e1,_⟩ | ⟨g',cp,cur,e1,h2,h3,h4,h5,h6,h7⟩
 ·cases e1
 ·injection e1 with a1 a2 a3
  injection a1 with a1
  injection a1 with a1 _ _
  subst a1 a3
  have hms:m*size≤n*size:=Nat.mul_le_mul_right _ hm
  refine ⟨by rw [List.length_take];omega,.inr ⟨g,cap,cur,rfl,h2,h3,by omega,h5,h6,?_⟩⟩
  rw [← h7,List.take_take,Nat.min_eq_left hms]
theorem qG1 {P:Program} (w:World) (t e ty:TypeId) (z:Value) (ht:P.underlying t=some (.slice e)) (hv:∀ w,(zeroValue e).run P w=.ok z w) (h1:∀ u∈z.cells.toList,u.oneCell'=true) (b o c:Nat)
  (hc:∀ j,j<z.cells.size→(w.cell? ⟨b,o+j,none⟩).isSome=true) (hf:∀ j,j<z.cells.size→w.frozen? ⟨b,o+j,none⟩=false) :
  (Builtin.clear_ #[t] ty #[.slice (some ⟨b,o,none⟩) 1 c]).run P w=.ok (.tuple #[]) (w.setCells b o z.cells.toList):=by
 have hzc:(Builtin.zeroCells z.cells 1).toList=z.cells.toList:=by
  apply List.ext_getElem
  ·simp [Builtin.zeroCells]
  ·intro i h1 h2
   have h3:i<z.cells.size:=by simpa using h2
   simp [Builtin.zeroCells,Nat.mod_eq_of_lt h3,getElem!_pos z.cells i h3]
 have hst:=run_storeCells_cells (P:=P) b o z.cells.toList 0 w (by simpa using hc) (by simpa using hf) h1
 simp only [Nat.add_zero] at hst
 simp [Builtin.clear_,run_underlying ht,hv,hzc,hst]
theorem qNS (w:World):(zeroValue 104).run Tryz.prog w=.ok (.agg #[.string ⟨#[]⟩,.slice none 0 0,.int .i64 0]) w:=by kernel_rfl
theorem qGv:∀ (zs:List PkX) (k:Nat),(zs.drop k).flatMap qA4=(zs.flatMap qA4).drop (k*3)
 | [],k=>by simp
 | x::r,0=>by simp
 | x::r,k+1=>by
  rw [List.drop_succ_cons,qGv r k,List.flatMap_cons,show (k+1)*3=(qA4 x).length+k*3 by show _=3+_;omega,List.drop_append]
  simp
theorem qGE:∀ (zs:List PkX) (k:Nat),(zs.take k).flatMap qA4=(zs.flatMap qA4).take (k*3)
 | [],k=>by simp
 | x::r,0=>by simp
 | x::r,k+1=>by
  rw [List.take_succ_cons,List.flatMap_cons,qGE r k,List.flatMap_cons,show (k+1)*3=(qA4 x).length+k*3 by show _=3+_;omega,List.take_append]
  rw [zo (l:=qA4 x) (by omega)]
  simp
theorem qQl {w:World} {base g cap:Nat} {zs:List PkX} (hr:w.ownsRow base 104 3 (.slice (some ⟨g,0,none⟩) zs.length cap) zs.length (zs.flatMap qA4)) (k:Nat) (hk:k<zs.length) (hz:zs.length≤1000000) :
  Calls Tryz.prog 68 #[.slice (some ⟨g,0,none⟩) zs.length cap,.int .i64 k,.int .i64 ((k:Int)+1)] w fun e w'=>e=.returned (.slice (some ⟨g,0,none⟩) (zs.length-1) cap) ∧
   w'.ownsRow base 104 3 (.slice (some ⟨g,0,none⟩) (zs.length-1) cap) (zs.length-1) ((zs.eraseIdx k).flatMap qA4)∧w.grownBy w' (some g):=by
 have hncap:=qBE hr
 have hcap:cap≤maxLen:=by
  rcases hr.2 with ⟨e1,_⟩ | ⟨g',cp,cur,e1,_,_,_,h5,_⟩
  ·cases e1
  ·injection e1 with _ _ e3;omega
 unfold maxLen at hcap
 obtain ⟨i0,hi0,hz0,hz1,hz2⟩:=qD3.info
 obtain ⟨news,hnews⟩:∃ news,news=(zs.drop (k+1)).flatMap qA4:=⟨_,rfl⟩
 have hlen:news.length=(zs.length-(k+1))*3:=by rw [hnews,qBq,List.length_drop]
 have hcell:∀ j u,(zs.flatMap qA4)[j]?=some u→w.cell? ⟨g,j,none⟩=some u:=fun j u hu=>by
  have hj:=(zN.1 hu).1
  rw [qBq] at hj
  rw [hr.cellAt j hj]
  exact hu
 have hfl:=qBq zs
 obtain ⟨A,hA,hsrc⟩:∃ A:Addr,(if cap=k+1 then some (⟨g,0,none⟩:Addr) else some ⟨g,(k+1)*3,none⟩)=some A∧Hid (∀ t u,news[t]?=some u→w.drew.cell? (A.add t)=some u):=by
  by_cases h:cap=k+1
  ·refine ⟨⟨g,0,none⟩,by rw [zN1 h],fun t u hu=>?_⟩
   have h0:news.length=0:=by rw [hlen];omega
   rw [zT.1 h0] at hu
   simp at hu
  ·refine ⟨⟨g,(k+1)*3,none⟩,by rw [zM1 h],fun t u hu=>?_⟩
   have e1:(⟨g,(k+1)*3,none⟩:Addr).add t=⟨g,(k+1)*3+t,none⟩:=by unfold Addr.add;split<;>simp_all
   rw [e1]
   refine hcell ((k+1)*3+t) u ?_
   rw [hnews,qGv,List.getElem?_drop] at hu
   exact hu
 have s1:Hid (news.length=(zs.length-(k+1))*3):=hlen
 have s2:Hid (∀ u∈news,u.oneCell'=true):=by
  intro u hu
  rw [hnews] at hu
  obtain ⟨x,_,hx⟩:=ze.1 hu
  exact qIf x u hx
 have hcs:∀ j,j<zs.length*3→(w.cell? ⟨g,j,none⟩).isSome=true:=fun j hj=>by
  rw [hr.cellAt j hj,zM (by rw [hfl];exact hj)]
  rfl
 have s3:Hid (∀ t,t<news.length→(w.drew.cell? ⟨g,0+k*3+t,none⟩).isSome=true∧w.drew.frozen? ⟨g,0+k*3+t,none⟩=false):=by
  intro t ht
  rw [hlen] at ht
  exact ⟨hcs _ (by omega),hr.frozenAt _⟩
 obtain ⟨h1a,h1b⟩:=qAP (w:=w.drew) hr news (0+k*3) (by rw [hfl,hlen];omega)
 obtain ⟨W1,hW1⟩:∃ W1,W1=w.drew.setCells g (0+k*3) news:=⟨_,rfl⟩
 rw [← hW1] at h1a h1b
 obtain ⟨xs1,hxs1⟩:∃ xs1,xs1=(zs.flatMap qA4).take (0+k*3)++news++(zs.flatMap qA4).drop (0+k*3+news.length):=⟨_,rfl⟩
 rw [← hxs1] at h1a
 have hl1:=h1a.1
 obtain ⟨zc,hzc⟩:∃ zc:Value,zc=.agg #[.string ⟨#[]⟩,.slice none 0 0,.int .i64 0]:=⟨_,rfl⟩
 have hzs:zc.cells=#[.string ⟨#[]⟩,.slice none 0 0,.int .i64 0]:=by rw [hzc];rfl
 have hcl:∀ ty c',(Builtin.clear_ #[62] ty #[.slice (some ⟨g,(zs.length-1)*3,none⟩) 1 c']).run Tryz.prog W1=.ok (.tuple #[]) (W1.setCells g ((zs.length-1)*3) zc.cells.toList):=fun ty c' =>
  qG1 W1 _ 104 ty zc Tryz.underlying62 (fun w=>by rw [hzc];exact qNS w) (fun u hu=>by
   rw [hzs] at hu
   simp only [za,List.not_mem_nil,or_false] at hu
   rcases hu with rfl | rfl | rfl<;>rfl) g _ c' (fun j hj=>by
    rw [hzs] at hj
    have hj':j<3:=hj
    rw [h1a.cellAt _ (by omega),zM (by rw [hl1];omega)]
    rfl) (fun j _=>h1a.frozenAt _)
 obtain ⟨h2a,h2b⟩:=qAP h1a zc.cells.toList ((zs.length-1)*3) (by rw [hzs,hl1];show _+3≤_;omega)
 have h3:=qBD h2a (m:=zs.length-1) (by omega)
 have hfin:(xs1.take ((zs.length-1)*3)++zc.cells.toList++xs1.drop ((zs.length-1)*3+zc.cells.toList.length)).take ((zs.length-1)*3)=(zs.eraseIdx k).flatMap qA4:=by
  rw [List.append_assoc,zm (by rw [List.length_take,hl1];omega),List.take_take,Nat.min_self,hxs1,zx,List.eraseIdx_eq_take_drop_succ,List.flatMap_append,qGE,← hnews]
  have e1:((zs.flatMap qA4).take (k*3)++news).length=(zs.length-1)*3:=by rw [zQ,List.length_take,hfl,hlen];omega
  rw [zm (by omega),zo (by omega)]
 rw [hfin] at h3
 clear hfin
 have HF:=Hh h3
 have HG:=Hh (show w.grownBy (W1.setCells g ((zs.length-1)*3) zc.cells.toList) (some g) from ⟨h2b.os.trans h1b.os,h2b.tape.trans h1b.tape,h2b.output.trans h1b.output,zt h1b.size h2b.size,fun k hk hne=>(h2b.block k (zv hk h1b.size) hne).trans (h1b.block k hk hne)⟩)
 have hW:Hid (W1=w.drew.setCells g (0+k*3) news):=hW1
 generalize zc.cells.toList=zl at hcl HF HG h2a h2b h3
 have hkc:k≤cap:=by omega
 have hkc1:k+1≤cap:=by omega
 have hsum:k+(zs.length-(k+1))=zs.length-1:=by omega
 clear hr hcell hcs h1a h1b h2a h2b h3 hl1 hxs1 hzs hW1 hnews hlen hfl hzc hz2 hz0
 have e0:((k:Int)==(k:Int)+1)=false:=by rw [zH1];omega
 have i1:(0:Int)≤(k:Int)+1:=by omega
 have i2:(k:Int)+1≤(zs.length:Int):=by omega
 have mixed:Tryz.prog.follows Departure.mixedOrders=true:=by kernel_rfl
 go_enter Tryz.func68,Tryz.ntmps68
 go_wp2_with fail
 go_region_law_o (refine step_append_room rfl (.tmp 22) (.tmp 25) 62 rfl 104 i0 3 Tryz.underlying62 hi0 hz1 g 0 k cap (by simp [Act.eval,Act.put]) A (zs.length-(k+1)) (cap-(k+1)) news (by simp [Act.eval,Act.put]) s1.out hsrc.out s2.out (by omega) s3.out ?_;rw [← hW.out])
 have j1:((zs.length-1:Nat):Int)≤(zs.length:Int):=by omega
 have j2:(0:Int)≤((zs.length-1:Nat):Int):=by omega
 have j3:¬ cap=zs.length-1:=by omega
 have j4:zs.length-(zs.length-1)=1:=by omega
 have j5:(zs.length:Int)≤(cap:Int):=by omega
 go_wp2
 go_ret
 exact ⟨rfl,HF.out,HG.out⟩
end Go.Proofs.YthogfjmnnaoldaaGreatDoor
namespace Stl
def unl (t:Tab) (n:Nat):Tab:=match t.unlink n with | .ok t1=>t1 | .error _=>t
theorem qAt (t:Tab) (s:Bytes) (n:Nat) (r:List (Bytes×Nat)):qAf t ((s,n)::r)=qAf (unl t n) r:=rfl
theorem qB9 {t:Tab} {n:Nat} {x:Ino} (h:t.at_ n=some x):unl t n={ t with l:=t.l.set n (if x.links=1 then none else some { x with links:=x.links-1 }) }:=by
 unfold unl Tab.unlink
 rw [h]
theorem qCD {t:Tab} {n:Nat} (h:t.at_ n=none):unl t n=t:=by
 unfold unl Tab.unlink
 rw [h]
theorem qEs {t:Tab} {n m:Nat} (h:m≠n):(unl t n).at_ m=t.at_ m:=by
 cases hx:t.at_ n with
 | none=>rw [qCD hx]
 | some x =>
  rw [qB9 hx]
  have:=qGK t.l n (if x.links=1 then none else some { x with links:=x.links-1 }) (qEi hx) m
  rw [zM1 h] at this
  exact this
theorem qOJ (t:Tab) (m n:Nat):unl (unl t m) n=unl (unl t n) m:=by
 by_cases e:m=n
 ·rw [e]
 ·cases hm:t.at_ m with
  | none =>
   rw [qCD hm,qCD (t:=unl t n) ((qEs e).trans hm)]
  | some x =>
   cases hn:t.at_ n with
   | none=>rw [qCD hn,qCD (t:=unl t m) ((qEs (Ne.symm e)).trans hn)]
   | some y =>
    rw [qB9 (t:=unl t m) ((qEs (Ne.symm e)).trans hn),qB9 (t:=unl t n) ((qEs e).trans hm),qB9 hm,qB9 hn]
    simp only [List.set_comm _ _ e]
theorem qCO:∀ (a b:List (Bytes×Nat)) (t:Tab),qAf t (a++b)=qAf (qAf t a) b
 | [],b,t=>rfl
 | (s,n)::a,b,t=>by
  rw [zF,qAt,qAt,qCO a b]
theorem qGm (a:List (Bytes×Nat)) (s:Bytes) (n:Nat) (t:Tab):qAf t (a++[(s,n)])=unl (qAf t a) n:=by
 rw [qCO]
 rfl
theorem qGb {a b:List (Bytes×Nat)} (h:a.Perm b):∀ t,qAf t a=qAf t b:=by
 induction h with
 | nil=>intro t;rfl
 | cons x _ ih =>
  intro t
  obtain ⟨s,n⟩:=x
  rw [qAt,qAt,ih]
 | swap x y l =>
  intro t
  obtain ⟨s,n⟩:=x
  obtain ⟨s2,n2⟩:=y
  rw [qAt,qAt,qAt,qAt,qOJ]
 | trans _ _ h1 h2=>intro t;rw [h1,h2]
theorem qDE:∀ (a:List (Bytes×Nat)) (t:Tab),(qAf t a).l.length=t.l.length
 | [],t=>rfl
 | (s,n)::a,t=>by
  rw [qAt,qDE a]
  cases hx:t.at_ n with
  | none=>rw [qCD hx]
  | some x=>rw [qB9 hx];simp
theorem qIL (n:Nd):(items n).length≤200:=by
 unfold items
 split
 ·rename_i h
  exact (items_well h).1
 ·simp
theorem qCu {d:Dirs} (hd:qAD d) {e:Ent} (he:e∈d.l):e.f.length≤200:=by
 have h1:=congrArg List.length (hd.files e he)
 rw [zV] at h1
 rw [h1]
 unfold qAx
 rw [zV]
 refine zt (zU _ _) ?_
 exact qIL e.n
theorem qKL {d:Dirs} (hd:qAD d):(nums d.l).length≤200*d.l.length:=by
 have:∀ l:List Ent,(∀ e∈l,e.f.length≤200)→(nums l).length≤200*l.length:=by
  intro l
  induction l with
  | nil=>intro _;simp [nums]
  | cons e r ih =>
   intro h
   have h1:=ih (fun x hx=>h x (by simp [hx]))
   have h2:=h e (by simp)
   have:nums (e::r)=e.f.map (·.2)++nums r:=by simp [nums]
   rw [this,zQ,zV,zS]
   omega
 exact this d.l (fun e he=>qCu hd he)
theorem qEm {d:Dirs} (hd:qAD d) {n:Nat} {x:Ino} (hx:d.t.at_ n=some x):x.links≤200*d.l.length:=by
 rw [hd.links n x hx]
 exact zt List.count_le_length (qKL hd)
theorem qLF {d:Dirs} (hd:qAD d) {e:Ent} (he:e∈d.l) {v rest:List (Bytes×Nat)} {s:Bytes} {n:Nat} (hp:(v++(s,n)::rest).Perm e.f) :
  qBj (qAf d.t v)∧(qAf d.t v).disk=d.t.disk∧∃ x,(qAf d.t v).at_ n=some x∧x.links≤200*d.l.length+200:=by
 have hc:∀ m,(e.f.map (·.2)).count m=(v.map (·.2)).count m+(((s,n)::rest).map (·.2)).count m:=fun m=>by
  rw [← ((hp.map (·.2)).count_eq m),zW,List.count_append]
 have hmem:∀ q∈v++(s,n)::rest,(d.t.at_ q.2).isSome:=fun q hq=>hd.there q.2 (ze.2 ⟨e,he,zf.2 ⟨q,hp.subset hq,rfl⟩⟩)
 obtain ⟨u1,u2,u3,u4,_⟩:=qCh v d.t (((s,n)::rest).map (·.2)++nums (d.l.filter fun x=>x.k != e.k)) hd.tab
  (fun m x hx=>by rw [hd.links m x hx,qEJ hd.keys he,hc,List.count_append];omega)
  (fun m hm=>by
   obtain ⟨q,hq,rfl⟩:=zf.1 hm
   exact hmem q (List.mem_append_left _ hq))
 have h4:=u4 n (by rw [List.count_append];simp;omega) (hmem (s,n) (by simp))
 obtain ⟨x,hx⟩:=zA1.1 h4
 refine ⟨u1,u2,x,hx,?_⟩
 rw [(u3 n x hx).1,List.count_append]
 have h1:(((s,n)::rest).map (·.2)).count n≤200:=by
  refine zt List.count_le_length ?_
  have:=hp.length_eq
  have:=qCu hd he
  simp only [zQ,zS,zV] at *
  omega
 have h2:(nums (d.l.filter fun x=>x.k != e.k)).count n≤200*d.l.length:=by
  refine zt ?_ (qKL hd)
  rw [show (nums (d.l.filter fun x=>x.k != e.k)).count n=(nums d.l).count n-(e.f.map (·.2)).count n by rw [qEJ hd.keys he];omega]
  exact zt (Nat.sub_le _ _) List.count_le_length
 omega
end Stl
namespace Go.Proofs.YthogfjmnnaoldaaGreatDoor
open Go.RowKit Go.Maps Go.Sort Go.Shelf Stl
theorem qE1 (l:List Ent) (k j:Nat):qAh (l.filter fun x=>x.k != k) j=if j=k then none else qAh l j:=by
 unfold qAh
 rw [List.find?_filter]
 by_cases h:j=k
 ·subst h
  rw [zN1 rfl,List.find?_eq_none]
  intro x _
  simp
 ·rw [zM1 h]
  congr 1
  funext x
  by_cases hx:x.k=j
  ·simp [hx,h]
  ·simp [hx]
structure DirsLess (w:World) (c:Nat→Col) (b:Nat) (d:Stl.Dirs) (bt bm:Nat) (nd:Nat→List Value) (fm:Nat→Nat) (k:Nat):Prop where
 own:w.heap[b]?=some (.cells #[.pointer (some ⟨bt,0,none⟩),.map (some bm),.int .i64 d.next] 97 (0,0))
 col:c b=.dirs
 mcol:c bm=.dirsMap
 map:qCR w bm d.l.length (fun j=>if j=k then none else qA3 d.l nd fm j)
 node:∀ j e,qAh d.l j=some e→j≠k→RoNode w c e.n (nd j)
 fcol:∀ j e,qAh d.l j=some e→j≠k→c (fm j)=.files j
 files:∀ j e,qAh d.l j=some e→j≠k→qBh w (fm j) e.f.length (fileAt e.f)
section
variable {w w2:World} {c c2:Nat→Col} {S:Col→Bool} {b:Nat} {d:Stl.Dirs} {bt bm:Nat} {nd:Nat→List Value} {fm:Nat→Nat} {k:Nat}
theorem DirsLess.ext (h:DirsLess w c b d bt bm nd fm k) (e:Ext w w2 c c2 S) (h0:S .ro=false) (h1:S .dirs=false) (h2:S .dirsMap=false) (h3:∀ j,j≠k→S (.files j)=false):DirsLess w2 c2 b d bt bm nd fm k :=
 ⟨(e.kept h.own h.col h1).1,(e.kept h.own h.col h1).2,e.col h.map.lt h.mcol h2,h.map.ext e h.mcol h2,
  fun j x hx hj=>(h.node j x hx hj).ext e h0,fun j x hx hj=>e.col (h.files j x hx hj).lt (h.fcol j x hx hj) (h3 j hj),fun j x hx hj=>(h.files j x hx hj).ext e (h.fcol j x hx hj) (h3 j hj)⟩
theorem DirsIn.less (h:DirsIn w c b d bt bm nd fm) (k:Nat) (hm:qCR w2 bm d.l.length (fun j=>if j=k then none else qA3 d.l nd fm j)) (e:Ext w w2 c c (S1 .dirsMap)):DirsLess w2 c b d bt bm nd fm k :=
 ⟨(e.kept h.own h.col rfl).1,h.col,h.mcol,hm,fun j x hx _=>(h.node j x hx).ext e rfl,fun j x hx _=>h.fcol j x hx,fun j x hx _=>(h.files j x hx).ext e (h.fcol j x hx) (qBk (by intro e;cases e))⟩
theorem DirsLess.shut (h:DirsLess w c b d bt bm nd fm k) {T:Tab} (ht:TabAt w c bt T):DirsAt w c b { d with t:=T,l:=d.l.filter fun x=>x.k != k }:=by
 have he:∀ j x,qAh (d.l.filter fun x=>x.k != k) j=some x→qAh d.l j=some x∧j≠k:=by
  intro j x hx
  rw [qE1] at hx
  by_cases hj:j=k
  ·rw [zN1 hj] at hx;cases hx
  ·rw [zM1 hj] at hx;exact ⟨hx,hj⟩
 refine ⟨bt,bm,nd,fm,h.own,h.col,ht,h.mcol,?_,fun j x hx=>h.node j x (he j x hx).1 (he j x hx).2,fun j x hx=>h.fcol j x (he j x hx).1 (he j x hx).2,fun j x hx=>h.files j x (he j x hx).1 (he j x hx).2⟩
 have hc:∀ j,qA3 (d.l.filter fun x=>x.k != k) nd fm j=if j=k then none else qA3 d.l nd fm j:=by
  intro j
  unfold qA3
  rw [qE1]
  by_cases hj:j=k<;>simp [hj]
 have:=(h.map.congr hc).tight okN.keyed ((d.l.filter fun x=>x.k != k).map (·.k)) (fun j hj=>by
  unfold qA3 at hj
  cases hx:qAh (d.l.filter fun x=>x.k != k) j with
  | none=>rw [hx] at hj;cases hj
  | some x =>
   have h1:=zh hx
   have h2:=List.find?_some hx
   exact zf.2 ⟨x,h1,by simpa using h2⟩)
 simpa using this
end
end Go.Proofs.YthogfjmnnaoldaaGreatDoor
namespace Go.Proofs.YthogfjmnnaoldaaGreatDoor
open Go.RowKit Go.Sort Go.Shelf Stl
theorem qF8 {d:Stl.Dirs} (hd:qAD d) {k:Nat} {e:Ent} (he:qAh d.l k=some e):∀ q∈e.f,q.1.length≤1000000:=fun q hq=>by
 have hm:=zh he
 have h1:q.1∈qAx e.n:=by rw [← hd.files e hm];exact zf.2 ⟨q,hq,rfl⟩
 unfold qAx at h1
 obtain ⟨x,hx,h2⟩:=zf.1 h1
 have hx2:=(zb.1 hx).1
 have hx3:x∈Stl.flat e.n [] 0:=by
  unfold items at hx2
  split at hx2
  ·exact hx2
  ·cases hx2
 have:=((items_well (hd.well e hm)).2 x hx3).2
 rw [← h2]
 unfold told
 split
 ·simp
 ·omega
theorem qHN {P:List UInt8→Bool} {x:List UInt8} {n:Nat}:∀ {l:List (List UInt8×Nat)},(l.map (·.1)).Nodup→(x,n)∈l→P x=true→(l.filter fun q=>P q.1).Perm ((x,n)::l.filter fun q=>P q.1&&!decide (q.1=x))
 | [],_,h,_=>by cases h
 | y::r,hn,h,hp=>by
  obtain ⟨h1,h2⟩:=List.nodup_cons.1 hn
  by_cases hy:y.1=x
  ·have hy2:y=(x,n):=by
    rcases za.1 h with e | e
    ·exact e.symm
    ·exact absurd (zf.2 ⟨_,e,hy.symm⟩) h1
   subst hy2
   have hr:(r.filter fun q=>P q.1&&!decide (q.1=x))=r.filter fun q=>P q.1:=by
    refine List.filter_congr fun q hq=>?_
    have:q.1≠x:=fun e=>h1 (zf.2 ⟨q,hq,e⟩)
    simp [this]
   rw [zL (by simpa using hp),zK (by simp),hr]
  ·have hm:(x,n)∈r:=by
    rcases za.1 h with e | e
    ·exact absurd (by rw [← e]) hy
    ·exact e
   have ih:=qHN h2 hm hp
   cases hq:P y.1 with
   | true =>
    rw [zL (by simpa using hq),zL (by simp [hq,hy])]
    exact (ih.cons y).trans (List.Perm.swap _ _ _)
   | false =>
    rw [zK (by simp [hq]),zK (by simp [hq])]
    exact ih
def qDv:Col→Bool:=fun y=>qFd y||decide (y=.free)
structure DrSt (w4 wr:World) (c4 cr:Nat→Col) (b bt bm:Nat) (d:Stl.Dirs) (nd:Nat→List Value) (fm:Nat→Nat) (k:Nat) (e:Ent) (r:Nat) (left:List UInt8→Bool) (cnt:Nat) (v:List (List UInt8×Nat)):Prop where
 ext:Ext w4 wr c4 cr (fun y=>qLY y||decide (y=.free))
 less:DirsLess wr cr b d bt bm nd fm k
 tab:TabAt wr cr bt (qAf d.t v)
 range:RangeAt Tryz.prog 9 qLR wr (fm k) r e.f.length (fileAt e.f) left cnt
 perm:(v++e.f.filter fun q=>left q.1).Perm e.f
 rcol:cr r=.free
 fcol:cr (fm k)=.files k
section
variable {w:World} {c:Nat→Col} {b:Nat} {d:Stl.Dirs}
theorem qED {f:List (List UInt8×Nat)} {x:List UInt8} {n:Nat} (h:qAG f x=some n):(x,n)∈f:=by
 unfold qAG at h
 cases hf:f.find? fun p=>p.1==x with
 | none=>rw [hf] at h;cases h
 | some q =>
  rw [hf] at h
  simp only [zB1,zC1] at h
  have h1:=zh hf
  have h2:=List.find?_some hf
  have h3:q.1=x:=by simpa using h2
  obtain ⟨a,m⟩:=q
  simp only at h h3
  subst h h3
  exact h1
theorem qGA {f:List (List UInt8×Nat)} {x:List UInt8} (h:(fileAt f x).isSome=true):∃ n,qAG f x=some n:=by
 unfold fileAt at h
 rw [Option.isSome_map] at h
 exact zA1.1 h
theorem qH1 {d:Stl.Dirs} (hd:qAD d) {k:Nat} {e:Ent} (he:qAh d.l k=some e):(e.f.map (·.1)).Nodup:=by
 rw [hd.files e (zh he)]
 exact qBT _
theorem qPT (h:DirsAt w c b d) (hd:DirsGood d) (k:Nat) (hk:k≤1000000) {e:Ent} (he:qAh d.l k=some e) :
  Calls Tryz.prog 67 #[.pointer (some ⟨b,0,none⟩),.int .i64 k] w fun ev w'=>ev=.returned .nilIface∧∃ c2,Ext w w' c c2 qDv∧DirsAt w' c2 b { d with t:=qAf d.t e.f,l:=d.l.filter fun x=>x.k != k }:=by
 obtain ⟨bt,bm,nd,fm,h⟩:=h
 have hlk:=h.lookOk hk he
 obtain ⟨k',d',e',ks,A,cap,hn,hnd,hnp⟩:=h.ent he
 rw [hnd] at hlk
 simp only [zF,zj] at hlk
 have c1:w.cell? ⟨b,1,none⟩=some (.map (some bm)):=zK1 _ b 1 _ _ _ h.own
 have hb1:Below w.heap.size w (w.alloc (.cells #[.string ⟨k'.toArray⟩,.string ⟨d'.toArray⟩,.bool e',.slice A ks.length cap,.map (some (fm k))] 138)):=(zC _ w).alloc (zr _) _
 have HB1:=Hh hb1
 have HEX:=Hh (zL1 w (.cells #[.string ⟨k'.toArray⟩,.string ⟨d'.toArray⟩,.bool e',.slice A ks.length cap,.map (some (fm k))] 138))
 have H1:=Hh (h.below hb1)
 have HD:=Hh hd
 have HE:=Hh he
 have HM:=Hh (zh he)
 have hbm:=h.map.lt
 clear h hnp hn hnd hb1 hd he
 go_enter Tryz.func67,Tryz.ntmps67
 go_upto_region 4 with fail
 clear hlk c1
 generalize w.alloc (.cells #[.string ⟨k'.toArray⟩,.string ⟨d'.toArray⟩,.bool e',.slice A ks.length cap,.map (some (fm k))] 138)=w1 at *
 have c1:w1.cell? ⟨b,1,none⟩=some (.map (some bm)):=zK1 _ b 1 _ _ _ H1.out.own
 have HMP:=Hh H1.out.map
 go_upto_region 5 with (at_delete;refine qEC rfl _ _ 95 138 rfl okN Tryz.underlying95 rfl HMP.out k (by omega) rfl ?_;intro W2 hmap hturn)
 have he2:=Ext.turned hturn (c:=c) H1.out.mcol
 have HE2:=Hh he2
 have HLS:=Hh (H1.out.less k hmap he2)
 have HFM:=Hh ((H1.out.files k e HE.out).ext he2 (H1.out.fcol k e HE.out) (qBk (by intro e;cases e)))
 have HTB:=Hh (H1.out.tab.ext he2 rfl (fun x hx=>qBk (by intro e;subst e;cases hx)))
 have q4:W2.cell? ⟨w.heap.size,4,none⟩=some (.map (some (fm k))):=by
  have hb:=hturn.grown.block w.heap.size (qAa HEX.out) (fun e=>by injection e with e;omega)
  exact zK1 W2 _ 4 _ _ _ (hb.trans HEX.out)
 clear hturn hmap he2 c1
 go_wp2_with (at_range;refine qBW rfl _ 136 3 rfl okS Tryz.underlying136 rfl HFM.out ?_;intro w4 cnt hrg hgr hsz)
 have HRG:=Hh hrg
 have he4:=((Ext.refl W2 c S0).grown hgr (fun k hk=>by cases hk)).recolor (c3:=qAz c W2.heap.size .free) (fun k hk _=>qAg hk (zr _))
 have HE4:=Hh he4
 have hfl:fm k<W2.heap.size:=HFM.out.lt
 have hr2:fm k<w4.heap.size:=by omega
 have HP0:=Hh (show ([]++e.f.filter fun q:List UInt8×Nat=>(fileAt e.f q.1).isSome).Perm e.f by
  rw [zj,List.filter_eq_self.2]
  intro q hq
  unfold fileAt
  rw [Option.isSome_map]
  unfold qAG
  rw [Option.isSome_map,List.find?_isSome]
  exact ⟨q,hq,by simp⟩)
 have H0:=Hh (show DrSt w4 w4 (qAz c W2.heap.size .free) (qAz c W2.heap.size .free) b bt bm d nd fm k e W2.heap.size (fun x=>(fileAt e.f x).isSome) cnt [] from
  ⟨Ext.refl _ _ _,HLS.out.ext he4 rfl rfl rfl (fun _ _=>rfl),HTB.out.ext he4 rfl (fun _ _=>rfl),HRG.out,HP0.out,qAl _ _ _,by rw [qAg hfl (zr _)];exact H1.out.fcol k e HE.out⟩)
 have HOK:=Hh (show ∀ x:List UInt8,(fileAt e.f x).isSome=true→x.length≤maxLen from fun x hx=>by
  obtain ⟨n,h2⟩:=qGA hx
  have:=qF8 HD.out.ok HE.out _ (qED h2)
  unfold maxLen
  simp only at this
  omega)
 clear hrg hgr he4 q4 hr2
 generalize hr:W2.heap.size=r at *
 go_simp
 go_loopw [30] (fun _ wr=>∃ (left:List UInt8→Bool) (cn:Nat) (cr:Nat→Col) (v:List (List UInt8×Nat)),Hid (DrSt w4 wr (qAz c r .free) cr b bt bm d nd fm k e r left cn v)) (fun _ wr=>wr.rangeLeft (fm k) r)
 case atStart=>exact ⟨_,_,_,_,H0⟩
 case round =>
  obtain ⟨left,cn,cr,v,HS⟩:=hrel
  have hm0:=HS.out.range.left_eq
  go_wp2_with (at_next;refine qCp rfl _ rfl okS HOK.out rfl HS.out.range ?_ ?_)
  case _ =>
   intro hdone
   have HDN:=Hh hdone
   clear hdone
   go_wp2
   go_ret
   have hf:(e.f.filter fun q=>left q.1)=[]:=List.filter_eq_nil_iff.2 (fun q _=>by rw [HDN.out];decide)
   have hp:=HS.out.perm
   rw [hf,List.append_nil] at hp
   have ht:=HS.out.tab
   rw [qGb hp] at ht
   refine ⟨rfl,cr,?_,HS.out.less.shut ht⟩
   exact (((Ext.of_below HB1.out c qDv).then HE2.out (qAF rfl)).then HE4.out (fun _ _=>rfl)).then HS.out.ext (fun x hx=>by cases x<;>first | rfl | (cases hx))
  case _ =>
   intro x v0 w5 cnt' hlx hfx hrg5 hlt hgr5 hsz5 hen
   obtain ⟨n,hn⟩:=qGA (by rw [hfx];rfl)
   have hv:v0=.int .i64 (n:Int):=by
    unfold fileAt at hfx
    rw [hn] at hfx
    exact (Option.some.inj hfx).symm
   subst hv
   have hq:=qED hn
   have hnd:(e.f.map (·.1)).Nodup:=qH1 HD.out.ok HE.out
   have hp2:(v++(x,n)::e.f.filter fun q=>left q.1&&!decide (q.1=x)).Perm e.f:=((qHN hnd hq hlx).append_left v).symm.trans HS.out.perm
   obtain ⟨t1,t2,ino,hino,hlk⟩:=qLF HD.out.ok HM.out hp2
   have hsm:=HD.out.small HE.out _ hq
   have hents:=HD.out.ents
   have hdk:=HD.out.disk
   have e5:Ext wr w5 cr cr (S1 .free):=(Ext.refl wr cr (S1 .free)).grown hgr5 (fun k hk _=>by injection hk with hk;subst hk;rw [HS.out.rcol];rfl)
   have HT5:=Hh (HS.out.tab.ext e5 rfl (fun x hx=>qBk (by intro e;subst e;cases hx)))
   have HL5:=Hh (HS.out.less.ext e5 rfl rfl rfl (fun _ _=>rfl))
   have HR5:=Hh hrg5
   have HE5:=Hh e5
   have HLT:=Hh hlt
   have HLX:=Hh hlx
   have HP2:=Hh hp2
   have c0:w5.cell? ⟨b,0,none⟩=some (.pointer (some ⟨bt,0,none⟩)):=zK1 w5 b 0 _ _ _ HL5.out.own
   have HU:=Hh (qGJ HT5.out t1 (by rw [t2];exact hdk) n hsm hino (by omega))
   have HSN:=Hh (show qAf d.t (v++[(x,n)])=_ from (qGm v x n d.t).trans (qB9 hino))
   simp only [mkS] at hen
   clear hrg5 hgr5 hlt hlx hfx hp2 e5 t1 t2 hino hlk hsm hdk hq
   go_wp2_with (go_at_call 112;refine HU.out.mono ?_;rintro ev w6 ⟨rfl,c6,he6,ht6⟩)
   have hr5:RangeAt Tryz.prog 9 qLR w6 (fm k) r e.f.length (fileAt e.f) (fun y=>left y&&!decide (y=x)) cnt' :=
    HR5.out.of_blocks (he6.keep _ HR5.out.at_.lt (by rw [HS.out.fcol];rfl)).1 (he6.keep _ HR5.out.lt (by rw [HS.out.rcol];rfl)).1
   refine ⟨⟨fun y=>left y&&!decide (y=x),cnt',c6,v++[(x,n)],Hh ⟨?_,HL5.out.ext he6 rfl rfl rfl (fun _ _=>rfl),by rw [HSN.out];exact ht6,hr5,?_,he6.col HR5.out.lt HS.out.rcol rfl,he6.col HR5.out.at_.lt HS.out.fcol rfl⟩⟩,?_⟩
   ·exact (HS.out.ext.then HE5.out (qAF rfl)).then he6 (fun x hx=>by cases x<;>first | rfl | (cases hx))
   ·have:=HP2.out
    rw [List.append_assoc]
    exact this
   ·rw [hr5.left_eq,hm0];exact HLT.out
end
end Go.Proofs.YthogfjmnnaoldaaGreatDoor
namespace Go.Proofs.YthogfjmnnaoldaaGreatDoor
open Go.RowKit Go.Maps Go.Sort Go.Shelf Stl
def qD1:Col→Bool:=fun y=>qQW y||decide (y=.free)
theorem qEg:∀ x,qD1 x=false→qDv x=false:=fun x hx=>by cases x<;>first | rfl | (cases hx)
theorem qPo:∀ x,qD1 x=false→S0 x=false:=fun _ _=>rfl
theorem qNz:∀ x,qDv x=false→qFd x=false:=fun x hx=>by cases x<;>first | rfl | (cases hx)
structure qAX (s:Sto):Prop where
 ok:qCo s
 good:DirsGood s.d
 room:s.d.t.l.length≤900000
theorem qEN {l:List (List UInt8)} (h:Rise l):l.Nodup:=List.Pairwise.imp (R:=(·<·)) (S:=(·≠·)) (fun {a b} h (e:a=b)=>Stl.blt_irrefl a (e▸h)) h
theorem qEh {α:Type}:∀ {a b:List α},a.Nodup→(∀ x∈a,x∈b)→a.length≤b.length
 | [],_,_,_=>zy _
 | x::r,b,hp,h=>by
  obtain ⟨h1,h2⟩:=List.nodup_cons.1 hp
  obtain ⟨l,m,rfl⟩:=List.append_of_mem (h x (by simp))
  have:=qEh (a:=r) (b:=l++m) h2 (fun y hy=>by
   have:=h y (by simp [hy])
   simp only [zZ,za] at this ⊢
   rcases this with h3 | h3 | h3
   ·exact .inl h3
   ·exact absurd (h3▸hy) h1
   ·exact .inr h3)
  simp at this ⊢
  omega
section
variable {w w2:World} {c c2:Nat→Col} {b:Nat} {s:Sto} {bd:Nat} {A:Option Addr} {cap:Nat} {zs:List PkX} {R:Option Addr} {rc tp:Nat}
theorem StoX.redirs (h:StoX w c b s bd A cap zs R rc tp) (e:Ext w w2 c c2 qDv) {d':Stl.Dirs} (hd:DirsAt w2 c2 bd d'):StoX w2 c2 b { s with d:=d' } bd A cap zs R rc tp :=
 ⟨(e.kept h.own h.col rfl).1,(e.kept h.own h.col rfl).2,hd,h.packs.ext e rfl,h.eq,fun x hx=>⟨(h.ro x hx).1,(h.ro x hx).2.ext e rfl⟩,h.roots.ext e rfl⟩
theorem StoX.relist (h:StoX w c b s bd A cap zs R rc tp) (e:Ext w w2 c c2 (S1 .stoL)) {A':Option Addr} {cap':Nat} {zs':List PkX} (hr:RowAt w2 c2 .stoL 104 3 (.slice A' zs'.length cap') zs'.length (zs'.flatMap qA4)) (hro:∀ x∈zs',x.p.refs.length≤x.cap∧RoStrs w2 c2 x.a x.p.refs) :
  StoX (w2.setCell ⟨b,1,none⟩ (.slice A' zs'.length cap')) c2 b { s with l:=zs'.map (·.p) } bd A' cap' zs' R rc tp∧Ext w2 (w2.setCell ⟨b,1,none⟩ (.slice A' zs'.length cap')) c2 c2 (S1 .sto):=by
 have hb:=e.kept h.own h.col rfl
 obtain ⟨s1,s2⟩:=Ext.cell hb.1 hb.2 1 (.slice A' zs'.length cap')
 refine ⟨⟨by simpa using s1,hb.2,(h.dirs.ext e rfl (fun x hx=>qBk (by intro e;subst e;cases hx))).ext s2 rfl (fun x hx=>qBk (by intro e;subst e;cases hx)),hr.ext s2 rfl,rfl,fun x hx=>⟨(hro x hx).1,(hro x hx).2.ext s2 rfl⟩,(h.roots.ext e rfl).ext s2 rfl⟩,s2⟩
theorem StoX.reroots (h:StoX w c b s bd A cap zs R rc tp) (e:Ext w w2 c c2 (S1 .roots)) {R':Option Addr} {rc':Nat} {roots':List (List UInt8)} (hr:RowAt w2 c2 .roots 9 1 (.slice R' roots'.length rc') roots'.length (roots'.map encStr)) :
  StoX (w2.setCell ⟨b,2,none⟩ (.slice R' roots'.length rc')) c2 b { s with roots:=roots' } bd A cap zs R' rc' tp∧Ext w2 (w2.setCell ⟨b,2,none⟩ (.slice R' roots'.length rc')) c2 c2 (S1 .sto):=by
 have hb:=e.kept h.own h.col rfl
 obtain ⟨s1,s2⟩:=Ext.cell hb.1 hb.2 2 (.slice R' roots'.length rc')
 refine ⟨⟨by simpa using s1,hb.2,(h.dirs.ext e rfl (fun x hx=>qBk (by intro e;subst e;cases hx))).ext s2 rfl (fun x hx=>qBk (by intro e;subst e;cases hx)),(h.packs.ext e rfl).ext s2 rfl,h.eq,fun x hx=>⟨(h.ro x hx).1,((h.ro x hx).2.ext e rfl).ext s2 rfl⟩,hr.ext s2 rfl⟩,s2⟩
theorem StoX.few (h:StoX w c b s bd A cap zs R rc tp) (hs:qCo s):zs.length≤40:=by
 rw [h.len];exact hs.pks.many
theorem StoX.fewRefs (h:StoX w c b s bd A cap zs R rc tp) (hs:qCo s):∀ x∈zs,x.p.refs.length≤20:=fun x hx=>hs.pks.few x.p (by rw [← h.eq];exact zf.2 ⟨x,hx,rfl⟩)
end
def ChPost (p:Nat→Addr) (w:World) (c:Nat→Col) (b tp:Nat) (r:Except Nat (List UInt8×Sto)) (ev:Ending) (w':World):Prop :=
 ∃ (a:ByteArray) (er:Value) (c2:Nat→Col),ev=.returned (.tuple #[.string a,er])∧Ext w w' c c2 qD1 ∧
  match r with
  | .error cd=>er=qAN p cd∧cd≠0
  | .ok q=>er=.nilIface∧a=⟨q.1.toArray⟩∧StoAt w' c2 b q.2 tp
theorem qCt {s:Sto} (hs:qCo s):s.roots.length≤40:=zt (qEh (qEN hs.rise) hs.roots) (by rw [zV];exact hs.pks.many)
end Go.Proofs.YthogfjmnnaoldaaGreatDoor
