/- Texts of this claim, merged: Copied, DelKept, DropPure, DropMem. -/
import Derived.Deep.RegionLaw
import Derived.Test.YtceklhjomhjipaaGreatDoorKm24
set_option maxHeartbeats 16000000
set_option maxRecDepth 1000000
set_option linter.all false
namespace Go.Proofs.YtceklhjomhjipaaGreatDoor
open Go.RowKit Go.Maps Go.Sort Go.Shelf Stl
theorem qEl:qBZ 93 (.agg #[.string ⟨#[]⟩,.slice none 0 0,.int .i64 0]) 3 48:=qBW (by kernel_rfl) rfl (by decide)
theorem qH7 (x:PkX):∀ v∈qA6 x,v.oneCell'=true:=by
 intro v hv
 simp only [qA6,zY,List.not_mem_nil,or_false] at hv
 rcases hv with rfl | rfl | rfl<;>rfl
theorem qLG (a:Addr) (cap:Nat) (w:World) :
  Calls Tryz.prog 33 #[.slice (some a) 0 cap] w fun ev w'=>∃ A' cap',ev=.returned (.slice A' 0 cap')∧w'.ownsRow w.heap.size 93 3 (.slice A' 0 cap') 0 []∧Below w.heap.size w w':=by
 obtain ⟨i,hi,hz0,hz1,hz2⟩:=qEl.info
 have t43:Tryz.prog.underlying 49=some (.slice 93):=by kernel_rfl
 have q43:∀ (w:World) (a:Option Addr) (n c:Nat),(binOp .eql 49 (.slice a n c) (.slice none 0 0)).run Tryz.prog w=.ok (.bool a.isNone) w:=fun w a n c=>Lib.run_eql_slice_nil w _ _ a n c 0 0 t43
 have u43:∀ w,Sem.run Tryz.prog (underlying 49) w=.ok (TypeDesc.slice 93) w:=run_underlying t43
 go_enter Tryz.func33,Tryz.ntmps33
 go_wp2_with (at_builtin;refine wpList_append_own _ rfl _ _ 49 rfl w.heap.size 93 i _ 3 48 t43 hi hz0 hz1 hz2 rfl (by decide) _ _ _ rfl (World.ownsRow_made w #[] 0 (zq _) (zx _) rfl) a 0 cap [] rfl rfl (by intro r u hj;simp at hj) (by intro u hu;cases hu) (by unfold maxLen;omega) (by omega) (by simp) ?_)
 intro v' w1 hown hgrow hnil
 obtain ⟨A',cap',rfl⟩:=Stl.owns_slice _ hown
 go_wp2
 go_ret
 refine ⟨A',cap',rfl,by simpa using hown,?_⟩
 exact ((zB _ w).alloc (zq _) _).grown hgrow (by simp) (by intro k hk;simp [Value.ownBlock] at hk;omega)
theorem qNK {w:World} {A:Option Addr} (cap:Nat) {zs:List PkX} (h:KeptAt w A zs) (hz:zs.length≤1000000) :
  Calls Tryz.prog 33 #[.slice A zs.length cap] w fun ev w'=>∃ A' c',ev=.returned (.slice A' zs.length c')∧w'.ownsRow w.heap.size 93 3 (.slice A' zs.length c') zs.length (zs.flatMap qA6)∧Below w.heap.size w w':=by
 obtain ⟨i,hi,hz0,hz1,hz2⟩:=qEl.info
 by_cases hn:zs=[]
 ·subst hn
  cases A with
  | none =>
   refine (AnyE.slices_Clone_nil Tryz.cloneK 0 cap w).mono ?_
   rintro ev w' ⟨rfl,rfl⟩
   exact ⟨none,0,rfl,zF1 _ _ _ _,zB _ _⟩
  | some ad=>exact qLG ad cap w
 ·obtain ⟨b,rfl,hb,hc⟩:=h hn
  refine (AnyE.slices_Clone Tryz.cloneK i _ 3 48 hi hz0 hz1 hz2 rfl (by decide) (qCG qEl) b 0 zs.length cap (zs.flatMap qA6) w (qBs zs) (by unfold maxLen;omega) (by omega) (fun j u hu=>by rw [zw];exact hc j u hu) (fun u hu=>by obtain ⟨x,_,hx⟩:=zb.1 hu;exact qH7 x u hx)).mono ?_
  rintro ev w' ⟨v',rfl,h5,_,h6⟩
  obtain ⟨A',cap',rfl⟩:=Stl.owns_slice _ h5
  exact ⟨A',cap',rfl,h5,h6⟩
def qMb (w:World) (k0:Nat→Col) (s:Sto) (tp:Nat) (e:Ending) (w':World):Prop:=∃ b2 c2,e=.returned (.pointer (some ⟨b2,0,none⟩))∧Below w.heap.size w w'∧(∀ k,k<w.heap.size→c2 k=k0 k)∧w.heap.size≤b2∧StoAt w' c2 b2 s tp
section
variable {w:World} {A:Option Addr} {zs:List PkX} {c:Nat→Col} {b:Nat} {s:Sto} {bd:Nat} {cap:Nat} {R:Option Addr} {rc tp:Nat}
theorem qG2 (k0:Nat→Col) (hro:∀ k,c k=.ro→k0 k=.ro) (h:StoX w c b s bd A cap zs R rc tp) (hd:DirsGood s.d) (hz:zs.length≤1000000) (hrl:s.roots.length≤1000000) :
  Calls Tryz.prog 17 #[.pointer (some ⟨b,0,none⟩)] w (qMb w k0 s tp):=by
 have H:=Hh h
 have HD:=Hh hd
 have c0:=ce0 h.own
 have c1:=ce1 h.own
 have c2:=ce2 h.own
 have c3:=ce3 h.own
 have hbl:=qAa h.own
 have hx:Ext w w c (fun k=>if k<w.heap.size then c k else .free) S0:=(Ext.refl w c S0).recolor (fun k hk _=>zM1 hk)
 have hro2:∀ k,(if k<w.heap.size then c k else Col.free)=.ro→(if k<w.heap.size then k0 k else Col.sto)=.ro:=fun k hk=>by
  by_cases h1:k<w.heap.size
  ·rw [zM1 h1] at hk ⊢
   exact hro k hk
  ·rw [zL1 h1] at hk
   cases hk
 have hD0:=(zB w.heap.size w).drew
 have HCP:=Hh (show Calls Tryz.prog 32 #[.pointer (some ⟨bd,0,none⟩)] w.drew _ from qJj (fun k=>if k<w.heap.size then k0 k else Col.sto) hro2 ((h.dirs.ext hx rfl (fun _ _=>rfl)).below hD0) hd)
 have HK:=Hh h.kept
 have HR:=Hh (qBI h.roots.1)
 have HRO:=Hh hro
 have HD0:=Hh hD0
 clear h hd hx hro2 hro hD0
 go_enter Tryz.func17,Tryz.ntmps17
 go_upto_region 1 with fail
 go_region_held3 (fun w'=>w'.cell? ⟨b,0,none⟩=some (.pointer (some ⟨bd,0,none⟩))∧w'.cell? ⟨b,1,none⟩=some (.slice A zs.length cap)∧w'.cell? ⟨b,2,none⟩=some (.slice R s.roots.length rc)∧w'.cell? ⟨b,3,none⟩=some (.pointer (some ⟨tp,0,none⟩)))
  (first
   | exact ⟨c0,c1,c2,c3⟩
   | exact HS2.out
   | exact HS3.out
   | exact HS4.out
   | go_keep)
  (first
   | (go_at_call 32;refine HCP.out.mono ?_;rintro ev w2 ⟨b2,k2,rfl,hb2,hk2,hl2,hd2⟩;have HB2:=Hh (HD0.out.trans (hb2.mono (zq _)));have HK2:=Hh hk2;have HL2:=Hh hl2;have HD2:=Hh hd2;have HS2:=Hh (show w2.cell? ⟨b,0,none⟩=some (.pointer (some ⟨bd,0,none⟩))∧w2.cell? ⟨b,1,none⟩=some (.slice A zs.length cap)∧w2.cell? ⟨b,2,none⟩=some (.slice R s.roots.length rc)∧w2.cell? ⟨b,3,none⟩=some (.pointer (some ⟨tp,0,none⟩)) from ⟨(HB2.out.cell hbl).trans c0,(HB2.out.cell hbl).trans c1,(HB2.out.cell hbl).trans c2,(HB2.out.cell hbl).trans c3⟩);clear hb2 hk2 hl2 hd2)
   | (go_at_call 33;refine (qNK cap (HK.out.later HB2.out) hz).mono ?_;rintro ev w3 ⟨A3,cap3,rfl,hr3,hb3⟩;have HB23:=Hh hb3;have HR3:=Hh hr3;have HB3:=Hh (HB2.out.trans (hb3.mono HB2.out.size));have HS3:=Hh (show w3.cell? ⟨b,0,none⟩=some (.pointer (some ⟨bd,0,none⟩))∧w3.cell? ⟨b,1,none⟩=some (.slice A zs.length cap)∧w3.cell? ⟨b,2,none⟩=some (.slice R s.roots.length rc)∧w3.cell? ⟨b,3,none⟩=some (.pointer (some ⟨tp,0,none⟩)) from ⟨(HB3.out.cell hbl).trans c0,(HB3.out.cell hbl).trans c1,(HB3.out.cell hbl).trans c2,(HB3.out.cell hbl).trans c3⟩);clear hb3 hr3)
   | (go_at_call 34;refine (qGc (HR.out.later HB3.out) hrl).mono ?_;rintro ev w4 ⟨A4,cap4,rfl,hr4,hb4⟩;have HB34:=Hh hb4;have HR4:=Hh hr4;have HB4:=Hh (HB3.out.trans (hb4.mono HB3.out.size));have HS4:=Hh (show w4.cell? ⟨b,0,none⟩=some (.pointer (some ⟨bd,0,none⟩))∧w4.cell? ⟨b,1,none⟩=some (.slice A zs.length cap)∧w4.cell? ⟨b,2,none⟩=some (.slice R s.roots.length rc)∧w4.cell? ⟨b,3,none⟩=some (.pointer (some ⟨tp,0,none⟩)) from ⟨(HB4.out.cell hbl).trans c0,(HB4.out.cell hbl).trans c1,(HB4.out.cell hbl).trans c2,(HB4.out.cell hbl).trans c3⟩);clear hb4 hr4)
   | fail)
 clear c0 c1 c2 c3
 go_wp2
 go_ret
 have s2:=HB2.out.size
 have s3:=HB23.out.size
 have s4:=HB34.out.size
 have hb5:=HB34.out.alloc HB34.out.size (.cells #[.pointer (some ⟨b2,0,none⟩),.slice A3 zs.length cap3,.slice A4 s.roots.length cap4,.pointer (some ⟨tp,0,none⟩)] 51)
 have hb45:Below w4.heap.size w4 (w4.alloc (.cells #[.pointer (some ⟨b2,0,none⟩),.slice A3 zs.length cap3,.slice A4 s.roots.length cap4,.pointer (some ⟨tp,0,none⟩)] 51)):=(zB _ w4).alloc (zq _) _
 have hx5:=zK1 w4 (.cells #[.pointer (some ⟨b2,0,none⟩),.slice A3 zs.length cap3,.slice A4 s.roots.length cap4,.pointer (some ⟨tp,0,none⟩)] 51)
 have hbw:Below w.heap.size w (w4.alloc (.cells #[.pointer (some ⟨b2,0,none⟩),.slice A3 zs.length cap3,.slice A4 s.roots.length cap4,.pointer (some ⟨tp,0,none⟩)] 51)):=HB4.out.alloc HB4.out.size _
 have hsz:(w4.alloc (.cells #[.pointer (some ⟨b2,0,none⟩),.slice A3 zs.length cap3,.slice A4 s.roots.length cap4,.pointer (some ⟨tp,0,none⟩)] 51)).heap.size=w4.heap.size+1:=by simp
 generalize w4.alloc (.cells #[.pointer (some ⟨b2,0,none⟩),.slice A3 zs.length cap3,.slice A4 s.roots.length cap4,.pointer (some ⟨tp,0,none⟩)] 51)=w5 at *
 obtain ⟨k5,hk5⟩:∃ k5:Nat→Col,k5=fun k=>if k<w2.heap.size then k2 k else if k<w3.heap.size then .stoL else if k<w4.heap.size then .roots else .sto:=⟨_,rfl⟩
 have e25:Ext w2 w5 k2 k5 S0:=(Ext.of_below ((HB23.out.trans (hb5.mono s3))) k2 S0).recolor fun k hk _=>by rw [hk5];exact zM1 hk
 have HX5:=hx5
 refine ⟨w4.heap.size,k5,rfl,hbw,fun k hk=>?_,by omega,StoX.shut (bd:=b2) (A:=A3) (cap:=cap3) (zs:=zs) (R:=A4) (rc:=cap4) ⟨HX5,?_,HD2.out.ext e25 rfl (fun _ _=>rfl),?_,H.out.eq,fun x hx=>⟨(H.out.ro x hx).1,?_⟩,?_⟩⟩
 ·rw [hk5]
  show (if k<w2.heap.size then k2 k else _)=_
  rw [zM1 (by omega),HK2.out k (by simpa using hk)]
  exact zM1 hk
 ·rw [hk5]
  show (if w4.heap.size<w2.heap.size then _ else if w4.heap.size<w3.heap.size then Col.stoL else if w4.heap.size<w4.heap.size then Col.roots else Col.sto)=_
  rw [zL1 (by omega),zL1 (by omega),zL1 (by omega)]
 ·refine RowAt.of_owns (base:=0) ((HR3.out.mono (zx _)).kept (Below.toGrown hb5 none) (by cases Value.ownBlock (Value.slice A3 zs.length cap3)<;>simp)) fun k hk=>?_
  obtain ⟨l1,l2⟩:=HR3.out.lt k hk
  rw [hk5]
  show (if k<w2.heap.size then _ else if k<w3.heap.size then Col.stoL else _)=_
  rw [zL1 (by omega),zM1 l2]
 ·intro hn
  obtain ⟨g,off,h1,h2,h3,h4⟩:=(H.out.ro x hx).2 hn
  refine ⟨g,off,h1,by omega,?_,fun j u hu=>?_⟩
  ·rw [hk5]
   show (if g<w2.heap.size then k2 g else _)=_
   rw [zM1 (by omega),HK2.out g (by simpa using h2)]
   show (if g<w.heap.size then k0 g else _)=_
   rw [zM1 h2]
   exact HRO.out g h3
  ·exact (hbw.cell (p:=⟨g,off+j,none⟩) h2).trans (h4 j u hu)
 ·refine RowAt.of_owns (base:=0) ((HR4.out.mono (zx _)).kept (Below.toGrown hb45 none) (by cases Value.ownBlock (Value.slice A4 s.roots.length cap4)<;>simp)) fun k hk=>?_
  obtain ⟨l1,l2⟩:=HR4.out.lt k hk
  rw [hk5]
  show (if k<w2.heap.size then _ else if k<w3.heap.size then Col.stoL else if k<w4.heap.size then Col.roots else _)=_
  rw [zL1 (by omega),zL1 (by omega),zM1 l2]
end
theorem qAU {w:World} {base:Nat} {e:TypeId} {size g n cap:Nat} {xs:List Value} (h:w.ownsRow base e size (.slice (some ⟨g,0,none⟩) n cap) n xs):∀ (vs:List Value) (o:Nat),o+vs.length≤xs.length →
  (w.setCells g o vs).ownsRow base e size (.slice (some ⟨g,0,none⟩) n cap) n (xs.take o++vs++xs.drop (o+vs.length))∧w.grownBy (w.setCells g o vs) (some g):=by
 intro vs
 induction vs generalizing w xs with
 | nil =>
  intro o _
  refine ⟨?_,⟨rfl,rfl,rfl,zq _,fun _ _ _=>rfl⟩⟩
  rw [show w.setCells g o []=w from rfl]
  simpa using h
 | cons v r ih =>
  intro o ho
  simp only [zQ] at ho
  obtain ⟨h1,h2⟩:=h.stored o v
  obtain ⟨h3,h4⟩:=ih h1 (o+1) (by simp;omega)
  refine ⟨?_,⟨h4.os.trans h2.os,h4.tape.trans h2.tape,h4.output.trans h2.output,zr h2.size h4.size,fun k hk hne=>(h4.block k (zu hk h2.size) hne).trans (h2.block k hk hne)⟩⟩
  have e1:(xs.set o v).take (o+1)++r++(xs.set o v).drop (o+1+r.length)=xs.take o++v::r++xs.drop (o+(v::r).length):=by
   have hlt:o<xs.length:=by omega
   obtain ⟨a,x,b,rfl,rfl⟩:∃ a x b,xs=a++x::b∧a.length=o:=⟨xs.take o,xs[o],xs.drop (o+1),by rw [← zF hlt,List.take_append_drop],by rw [List.length_take];omega⟩
   rw [List.set_append_right _ _ (zq _),Nat.sub_self,List.set_cons_zero]
   have t1:(a++v::b).take (a.length+1)=a++[v]:=by rw [List.take_append,zn (by omega)];simp
   have t2:(a++v::b).drop (a.length+1+r.length)=b.drop r.length:=by rw [List.drop_append,zG (by omega)];simp [show a.length+1+r.length-a.length=r.length+1 by omega]
   have t3:(a++x::b).drop (a.length+(v::r).length)=b.drop r.length:=by rw [List.drop_append,zG (by simp)];simp [show a.length+(r.length+1)-a.length=r.length+1 by omega]
   rw [t1,t2,t3,List.take_left]
   simp
  rw [← e1]
  exact h3
theorem qBA {w:World} {base:Nat} {e:TypeId} {size g n m cap:Nat} {xs:List Value} (h:w.ownsRow base e size (.slice (some ⟨g,0,none⟩) n cap) n xs) (hm:m≤n):w.ownsRow base e size (.slice (some ⟨g,0,none⟩) m cap) m (xs.take (m*size)):=by
 have hl:=h.1
 rcases h.2 with ⟨e1,_⟩ | ⟨g',cp,cur,e1,h2,h3,h4,h5,h6,h7⟩
 ·cases e1
 ·injection e1 with a1 a2 a3
  injection a1 with a1
  injection a1 with a1 _ _
  subst a1 a3
  have hms:m*size≤n*size:=Nat.mul_le_mul_right _ hm
  refine ⟨by rw [List.length_take];omega,.inr ⟨g,cap,cur,rfl,h2,h3,by omega,h5,h6,?_⟩⟩
  rw [← h7,List.take_take,Nat.min_eq_left hms]
theorem qHA {P:Program} (w:World) (t e ty:TypeId) (z:Value) (ht:P.underlying t=some (.slice e)) (hv:∀ w,(zeroValue e).run P w=.ok z w) (h1:∀ u∈z.cells.toList,u.oneCell'=true) (b o c:Nat)
  (hc:∀ j,j<z.cells.size→(w.cell? ⟨b,o+j,none⟩).isSome=true) (hf:∀ j,j<z.cells.size→w.frozen? ⟨b,o+j,none⟩=false) :
  (Builtin.clear_ #[t] ty #[.slice (some ⟨b,o,none⟩) 1 c]).run P w=.ok (.tuple #[]) (w.setCells b o z.cells.toList):=by
 have hzc:(Builtin.zeroCells z.cells 1).toList=z.cells.toList:=by
  apply List.ext_getElem
  ·simp [Builtin.zeroCells]
  ·intro i h1 h2
   have h3:i<z.cells.size:=by simpa using h2
   simp [Builtin.zeroCells,Nat.mod_eq_of_lt h3,getElem!_pos z.cells i h3]
 have hst:=run_storeCells_cells (P:=P) b o z.cells.toList 0 w (by simpa using hc) (by simpa using hf) h1
 simp only [Nat.add_zero] at hst
 simp [Builtin.clear_,run_underlying ht,hv,hzc,hst]
theorem qPi (w:World):(zeroValue 93).run Tryz.prog w=.ok (.agg #[.string ⟨#[]⟩,.slice none 0 0,.int .i64 0]) w:=by kernel_rfl
theorem qG3:∀ (zs:List PkX) (k:Nat),(zs.drop k).flatMap qA6=(zs.flatMap qA6).drop (k*3)
 | [],k=>by simp
 | x::r,0=>by simp
 | x::r,k+1=>by
  rw [List.drop_succ_cons,qG3 r k,List.flatMap_cons,show (k+1)*3=(qA6 x).length+k*3 by show _=3+_;omega,List.drop_append]
  simp
theorem qG4:∀ (zs:List PkX) (k:Nat),(zs.take k).flatMap qA6=(zs.flatMap qA6).take (k*3)
 | [],k=>by simp
 | x::r,0=>by simp
 | x::r,k+1=>by
  rw [List.take_succ_cons,List.flatMap_cons,qG4 r k,List.flatMap_cons,show (k+1)*3=(qA6 x).length+k*3 by show _=3+_;omega,List.take_append]
  rw [zn (l:=qA6 x) (by omega)]
  simp
theorem qPW {w:World} {base g cap:Nat} {zs:List PkX} (hr:w.ownsRow base 93 3 (.slice (some ⟨g,0,none⟩) zs.length cap) zs.length (zs.flatMap qA6)) (k:Nat) (hk:k<zs.length) (hz:zs.length≤1000000) :
  Calls Tryz.prog 70 #[.slice (some ⟨g,0,none⟩) zs.length cap,.int .i64 k,.int .i64 ((k:Int)+1)] w fun e w'=>e=.returned (.slice (some ⟨g,0,none⟩) (zs.length-1) cap) ∧
   w'.ownsRow base 93 3 (.slice (some ⟨g,0,none⟩) (zs.length-1) cap) (zs.length-1) ((zs.eraseIdx k).flatMap qA6)∧w.grownBy w' (some g):=by
 have hncap:=qBG hr
 have hcap:cap≤maxLen:=by
  rcases hr.2 with ⟨e1,_⟩ | ⟨g',cp,cur,e1,_,_,_,h5,_⟩
  ·cases e1
  ·injection e1 with _ _ e3;omega
 unfold maxLen at hcap
 obtain ⟨i0,hi0,hz0,hz1,hz2⟩:=qEl.info
 obtain ⟨news,hnews⟩:∃ news,news=(zs.drop (k+1)).flatMap qA6:=⟨_,rfl⟩
 have hlen:news.length=(zs.length-(k+1))*3:=by rw [hnews,qBs,List.length_drop]
 have hcell:∀ j u,(zs.flatMap qA6)[j]?=some u→w.cell? ⟨g,j,none⟩=some u:=fun j u hu=>by
  have hj:=(zM.1 hu).1
  rw [qBs] at hj
  rw [hr.cellAt j hj]
  exact hu
 have hfl:=qBs zs
 obtain ⟨A,hA,hsrc⟩:∃ A:Addr,(if cap=k+1 then some (⟨g,0,none⟩:Addr) else some ⟨g,(k+1)*3,none⟩)=some A∧Hid (∀ t u,news[t]?=some u→w.drew.cell? (A.add t)=some u):=by
  by_cases h:cap=k+1
  ·refine ⟨⟨g,0,none⟩,by rw [zM1 h],fun t u hu=>?_⟩
   have h0:news.length=0:=by rw [hlen];omega
   rw [zR.1 h0] at hu
   simp at hu
  ·refine ⟨⟨g,(k+1)*3,none⟩,by rw [zL1 h],fun t u hu=>?_⟩
   have e1:(⟨g,(k+1)*3,none⟩:Addr).add t=⟨g,(k+1)*3+t,none⟩:=by unfold Addr.add;split<;>simp_all
   rw [e1]
   refine hcell ((k+1)*3+t) u ?_
   rw [hnews,qG3,List.getElem?_drop] at hu
   exact hu
 have s1:Hid (news.length=(zs.length-(k+1))*3):=hlen
 have s2:Hid (∀ u∈news,u.oneCell'=true):=by
  intro u hu
  rw [hnews] at hu
  obtain ⟨x,_,hx⟩:=zb.1 hu
  exact qH7 x u hx
 have hcs:∀ j,j<zs.length*3→(w.cell? ⟨g,j,none⟩).isSome=true:=fun j hj=>by
  rw [hr.cellAt j hj,zL (by rw [hfl];exact hj)]
  rfl
 have s3:Hid (∀ t,t<news.length→(w.drew.cell? ⟨g,0+k*3+t,none⟩).isSome=true∧w.drew.frozen? ⟨g,0+k*3+t,none⟩=false):=by
  intro t ht
  rw [hlen] at ht
  exact ⟨hcs _ (by omega),hr.frozenAt _⟩
 obtain ⟨h1a,h1b⟩:=qAU (w:=w.drew) hr news (0+k*3) (by rw [hfl,hlen];omega)
 obtain ⟨W1,hW1⟩:∃ W1,W1=w.drew.setCells g (0+k*3) news:=⟨_,rfl⟩
 rw [← hW1] at h1a h1b
 obtain ⟨xs1,hxs1⟩:∃ xs1,xs1=(zs.flatMap qA6).take (0+k*3)++news++(zs.flatMap qA6).drop (0+k*3+news.length):=⟨_,rfl⟩
 rw [← hxs1] at h1a
 have hl1:=h1a.1
 obtain ⟨zc,hzc⟩:∃ zc:Value,zc=.agg #[.string ⟨#[]⟩,.slice none 0 0,.int .i64 0]:=⟨_,rfl⟩
 have hzs:zc.cells=#[.string ⟨#[]⟩,.slice none 0 0,.int .i64 0]:=by rw [hzc];rfl
 have hcl:∀ ty c',(Builtin.clear_ #[49] ty #[.slice (some ⟨g,(zs.length-1)*3,none⟩) 1 c']).run Tryz.prog W1=.ok (.tuple #[]) (W1.setCells g ((zs.length-1)*3) zc.cells.toList):=fun ty c' =>
  qHA W1 _ 93 ty zc Tryz.underlying49 (fun w=>by rw [hzc];exact qPi w) (fun u hu=>by
   rw [hzs] at hu
   simp only [zY,List.not_mem_nil,or_false] at hu
   rcases hu with rfl | rfl | rfl<;>rfl) g _ c' (fun j hj=>by
    rw [hzs] at hj
    have hj':j<3:=hj
    rw [h1a.cellAt _ (by omega),zL (by rw [hl1];omega)]
    rfl) (fun j _=>h1a.frozenAt _)
 obtain ⟨h2a,h2b⟩:=qAU h1a zc.cells.toList ((zs.length-1)*3) (by rw [hzs,hl1];show _+3≤_;omega)
 have h3:=qBA h2a (m:=zs.length-1) (by omega)
 have hfin:(xs1.take ((zs.length-1)*3)++zc.cells.toList++xs1.drop ((zs.length-1)*3+zc.cells.toList.length)).take ((zs.length-1)*3)=(zs.eraseIdx k).flatMap qA6:=by
  rw [List.append_assoc,zk (by rw [List.length_take,hl1];omega),List.take_take,Nat.min_self,hxs1,zw,List.eraseIdx_eq_take_drop_succ,List.flatMap_append,qG4,← hnews]
  have e1:((zs.flatMap qA6).take (k*3)++news).length=(zs.length-1)*3:=by rw [zP,List.length_take,hfl,hlen];omega
  rw [zk (by omega),zn (by omega)]
 rw [hfin] at h3
 clear hfin
 have HF:=Hh h3
 have HG:=Hh (show w.grownBy (W1.setCells g ((zs.length-1)*3) zc.cells.toList) (some g) from ⟨h2b.os.trans h1b.os,h2b.tape.trans h1b.tape,h2b.output.trans h1b.output,zr h1b.size h2b.size,fun k hk hne=>(h2b.block k (zu hk h1b.size) hne).trans (h1b.block k hk hne)⟩)
 have hW:Hid (W1=w.drew.setCells g (0+k*3) news):=hW1
 generalize zc.cells.toList=zl at hcl HF HG h2a h2b h3
 have hkc:k≤cap:=by omega
 have hkc1:k+1≤cap:=by omega
 have hsum:k+(zs.length-(k+1))=zs.length-1:=by omega
 clear hr hcell hcs h1a h1b h2a h2b h3 hl1 hxs1 hzs hW1 hnews hlen hfl hzc hz2 hz0
 have e0:((k:Int)==(k:Int)+1)=false:=by rw [zG1];omega
 have i1:(0:Int)≤(k:Int)+1:=by omega
 have i2:(k:Int)+1≤(zs.length:Int):=by omega
 have mixed:Tryz.prog.follows Departure.mixedOrders=true:=by kernel_rfl
 go_enter Tryz.func70,Tryz.ntmps70
 go_wp2_with fail
 go_region_law_o (refine step_append_room rfl (.tmp 22) (.tmp 25) 49 rfl 93 i0 3 Tryz.underlying49 hi0 hz1 g 0 k cap (by simp [Act.eval,Act.put]) A (zs.length-(k+1)) (cap-(k+1)) news (by simp [Act.eval,Act.put]) s1.out hsrc.out s2.out (by omega) s3.out ?_;rw [← hW.out])
 have j1:((zs.length-1:Nat):Int)≤(zs.length:Int):=by omega
 have j2:(0:Int)≤((zs.length-1:Nat):Int):=by omega
 have j3:¬ cap=zs.length-1:=by omega
 have j4:zs.length-(zs.length-1)=1:=by omega
 have j5:(zs.length:Int)≤(cap:Int):=by omega
 go_wp2
 go_ret
 exact ⟨rfl,HF.out,HG.out⟩
end Go.Proofs.YtceklhjomhjipaaGreatDoor
namespace Stl
def unl (t:Tab) (n:Nat):Tab:=match t.unlink n with | .ok t1=>t1 | .error _=>t
theorem qAu (t:Tab) (s:Bytes) (n:Nat) (r:List (Bytes×Nat)):qAg t ((s,n)::r)=qAg (unl t n) r:=rfl
theorem qB9 {t:Tab} {n:Nat} {x:Ino} (h:t.at_ n=some x):unl t n={ t with l:=t.l.set n (if x.links=1 then none else some { x with links:=x.links-1 }) }:=by
 unfold unl Tab.unlink
 rw [h]
theorem qCJ {t:Tab} {n:Nat} (h:t.at_ n=none):unl t n=t:=by
 unfold unl Tab.unlink
 rw [h]
theorem qED {t:Tab} {n m:Nat} (h:m≠n):(unl t n).at_ m=t.at_ m:=by
 cases hx:t.at_ n with
 | none=>rw [qCJ hx]
 | some x =>
  rw [qB9 hx]
  have:=qHf t.l n (if x.links=1 then none else some { x with links:=x.links-1 }) (qDR hx) m
  rw [zL1 h] at this
  exact this
theorem qPz (t:Tab) (m n:Nat):unl (unl t m) n=unl (unl t n) m:=by
 by_cases e:m=n
 ·rw [e]
 ·cases hm:t.at_ m with
  | none =>
   rw [qCJ hm,qCJ (t:=unl t n) ((qED e).trans hm)]
  | some x =>
   cases hn:t.at_ n with
   | none=>rw [qCJ hn,qCJ (t:=unl t m) ((qED (Ne.symm e)).trans hn)]
   | some y =>
    rw [qB9 (t:=unl t m) ((qED (Ne.symm e)).trans hn),qB9 (t:=unl t n) ((qED e).trans hm),qB9 hm,qB9 hn]
    simp only [List.set_comm _ _ e]
theorem qCN:∀ (a b:List (Bytes×Nat)) (t:Tab),qAg t (a++b)=qAg (qAg t a) b
 | [],b,t=>rfl
 | (s,n)::a,b,t=>by
  rw [zE,qAu,qAu,qCN a b]
theorem qGG (a:List (Bytes×Nat)) (s:Bytes) (n:Nat) (t:Tab):qAg t (a++[(s,n)])=unl (qAg t a) n:=by
 rw [qCN]
 rfl
theorem qGH {a b:List (Bytes×Nat)} (h:a.Perm b):∀ t,qAg t a=qAg t b:=by
 induction h with
 | nil=>intro t;rfl
 | cons x _ ih =>
  intro t
  obtain ⟨s,n⟩:=x
  rw [qAu,qAu,ih]
 | swap x y l =>
  intro t
  obtain ⟨s,n⟩:=x
  obtain ⟨s2,n2⟩:=y
  rw [qAu,qAu,qAu,qAu,qPz]
 | trans _ _ h1 h2=>intro t;rw [h1,h2]
theorem qDL:∀ (a:List (Bytes×Nat)) (t:Tab),(qAg t a).l.length=t.l.length
 | [],t=>rfl
 | (s,n)::a,t=>by
  rw [qAu,qDL a]
  cases hx:t.at_ n with
  | none=>rw [qCJ hx]
  | some x=>rw [qB9 hx];simp
theorem qIn (n:Nd):(items n).length≤200:=by
 unfold items
 split
 ·rename_i h
  exact (items_well h).1
 ·simp
theorem qCp {d:Dirs} (hd:qAN d) {e:Ent} (he:e∈d.l):e.f.length≤200:=by
 have h1:=congrArg List.length (hd.files e he)
 rw [zT] at h1
 rw [h1]
 unfold qAv
 rw [zT]
 refine zr (zS _ _) ?_
 exact qIn e.n
theorem qKz {d:Dirs} (hd:qAN d):(nums d.l).length≤200*d.l.length:=by
 have:∀ l:List Ent,(∀ e∈l,e.f.length≤200)→(nums l).length≤200*l.length:=by
  intro l
  induction l with
  | nil=>intro _;simp [nums]
  | cons e r ih =>
   intro h
   have h1:=ih (fun x hx=>h x (by simp [hx]))
   have h2:=h e (by simp)
   have:nums (e::r)=e.f.map (·.2)++nums r:=by simp [nums]
   rw [this,zP,zT,zQ]
   omega
 exact this d.l (fun e he=>qCp hd he)
theorem qEG {d:Dirs} (hd:qAN d) {n:Nat} {x:Ino} (hx:d.t.at_ n=some x):x.links≤200*d.l.length:=by
 rw [hd.links n x hx]
 exact zr List.count_le_length (qKz hd)
theorem qLV {d:Dirs} (hd:qAN d) {e:Ent} (he:e∈d.l) {v rest:List (Bytes×Nat)} {s:Bytes} {n:Nat} (hp:(v++(s,n)::rest).Perm e.f) :
  qBl (qAg d.t v)∧(qAg d.t v).disk=d.t.disk∧∃ x,(qAg d.t v).at_ n=some x∧x.links≤200*d.l.length+200:=by
 have hc:∀ m,(e.f.map (·.2)).count m=(v.map (·.2)).count m+(((s,n)::rest).map (·.2)).count m:=fun m=>by
  rw [← ((hp.map (·.2)).count_eq m),zU,List.count_append]
 have hmem:∀ q∈v++(s,n)::rest,(d.t.at_ q.2).isSome:=fun q hq=>hd.there q.2 (zb.2 ⟨e,he,ze.2 ⟨q,hp.subset hq,rfl⟩⟩)
 obtain ⟨u1,u2,u3,u4,_⟩:=qCj v d.t (((s,n)::rest).map (·.2)++nums (d.l.filter fun x=>x.k != e.k)) hd.tab
  (fun m x hx=>by rw [hd.links m x hx,qE3 hd.keys he,hc,List.count_append];omega)
  (fun m hm=>by
   obtain ⟨q,hq,rfl⟩:=ze.1 hm
   exact hmem q (List.mem_append_left _ hq))
 have h4:=u4 n (by rw [List.count_append];simp;omega) (hmem (s,n) (by simp))
 obtain ⟨x,hx⟩:=zz.1 h4
 refine ⟨u1,u2,x,hx,?_⟩
 rw [(u3 n x hx).1,List.count_append]
 have h1:(((s,n)::rest).map (·.2)).count n≤200:=by
  refine zr List.count_le_length ?_
  have:=hp.length_eq
  have:=qCp hd he
  simp only [zP,zQ,zT] at *
  omega
 have h2:(nums (d.l.filter fun x=>x.k != e.k)).count n≤200*d.l.length:=by
  refine zr ?_ (qKz hd)
  rw [show (nums (d.l.filter fun x=>x.k != e.k)).count n=(nums d.l).count n-(e.f.map (·.2)).count n by rw [qE3 hd.keys he];omega]
  exact zr (Nat.sub_le _ _) List.count_le_length
 omega
end Stl
namespace Go.Proofs.YtceklhjomhjipaaGreatDoor
open Go.RowKit Go.Maps Go.Sort Go.Shelf Stl
theorem qFc (l:List Ent) (k j:Nat):qAi (l.filter fun x=>x.k != k) j=if j=k then none else qAi l j:=by
 unfold qAi
 rw [List.find?_filter]
 by_cases h:j=k
 ·subst h
  rw [zM1 rfl,List.find?_eq_none]
  intro x _
  simp
 ·rw [zL1 h]
  congr 1
  funext x
  by_cases hx:x.k=j
  ·simp [hx,h]
  ·simp [hx]
structure DirsLess (w:World) (c:Nat→Col) (b:Nat) (d:Stl.Dirs) (bt bm:Nat) (nd:Nat→List Value) (fm:Nat→Nat) (k:Nat):Prop where
 own:w.heap[b]?=some (.cells #[.pointer (some ⟨bt,0,none⟩),.map (some bm),.int .i64 d.next] 89 (0,0))
 col:c b=.dirs
 mcol:c bm=.dirsMap
 map:qDf w bm d.l.length (fun j=>if j=k then none else qA3 d.l nd fm j)
 node:∀ j e,qAi d.l j=some e→j≠k→RoNode w c e.n (nd j)
 fcol:∀ j e,qAi d.l j=some e→j≠k→c (fm j)=.files j
 files:∀ j e,qAi d.l j=some e→j≠k→qBj w (fm j) e.f.length (fileAt e.f)
section
variable {w w2:World} {c c2:Nat→Col} {S:Col→Bool} {b:Nat} {d:Stl.Dirs} {bt bm:Nat} {nd:Nat→List Value} {fm:Nat→Nat} {k:Nat}
theorem DirsLess.ext (h:DirsLess w c b d bt bm nd fm k) (e:Ext w w2 c c2 S) (h0:S .ro=false) (h1:S .dirs=false) (h2:S .dirsMap=false) (h3:∀ j,j≠k→S (.files j)=false):DirsLess w2 c2 b d bt bm nd fm k :=
 ⟨(e.kept h.own h.col h1).1,(e.kept h.own h.col h1).2,e.col h.map.lt h.mcol h2,h.map.ext e h.mcol h2,
  fun j x hx hj=>(h.node j x hx hj).ext e h0,fun j x hx hj=>e.col (h.files j x hx hj).lt (h.fcol j x hx hj) (h3 j hj),fun j x hx hj=>(h.files j x hx hj).ext e (h.fcol j x hx hj) (h3 j hj)⟩
theorem DirsIn.less (h:DirsIn w c b d bt bm nd fm) (k:Nat) (hm:qDf w2 bm d.l.length (fun j=>if j=k then none else qA3 d.l nd fm j)) (e:Ext w w2 c c (S1 .dirsMap)):DirsLess w2 c b d bt bm nd fm k :=
 ⟨(e.kept h.own h.col rfl).1,h.col,h.mcol,hm,fun j x hx _=>(h.node j x hx).ext e rfl,fun j x hx _=>h.fcol j x hx,fun j x hx _=>(h.files j x hx).ext e (h.fcol j x hx) (qBm (by intro e;cases e))⟩
theorem DirsLess.shut (h:DirsLess w c b d bt bm nd fm k) {T:Tab} (ht:TabAt w c bt T):DirsAt w c b { d with t:=T,l:=d.l.filter fun x=>x.k != k }:=by
 have he:∀ j x,qAi (d.l.filter fun x=>x.k != k) j=some x→qAi d.l j=some x∧j≠k:=by
  intro j x hx
  rw [qFc] at hx
  by_cases hj:j=k
  ·rw [zM1 hj] at hx;cases hx
  ·rw [zL1 hj] at hx;exact ⟨hx,hj⟩
 refine ⟨bt,bm,nd,fm,h.own,h.col,ht,h.mcol,?_,fun j x hx=>h.node j x (he j x hx).1 (he j x hx).2,fun j x hx=>h.fcol j x (he j x hx).1 (he j x hx).2,fun j x hx=>h.files j x (he j x hx).1 (he j x hx).2⟩
 have hc:∀ j,qA3 (d.l.filter fun x=>x.k != k) nd fm j=if j=k then none else qA3 d.l nd fm j:=by
  intro j
  unfold qA3
  rw [qFc]
  by_cases hj:j=k<;>simp [hj]
 have:=(h.map.congr hc).tight okN.keyed ((d.l.filter fun x=>x.k != k).map (·.k)) (fun j hj=>by
  unfold qA3 at hj
  cases hx:qAi (d.l.filter fun x=>x.k != k) j with
  | none=>rw [hx] at hj;cases hj
  | some x =>
   have h1:=zg hx
   have h2:=List.find?_some hx
   exact ze.2 ⟨x,h1,by simpa using h2⟩)
 simpa using this
end
end Go.Proofs.YtceklhjomhjipaaGreatDoor
