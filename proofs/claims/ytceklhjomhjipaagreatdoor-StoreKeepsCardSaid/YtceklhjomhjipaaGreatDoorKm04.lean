/- Texts of this claim, merged: Find, Texts, TreePure. -/
import Derived.Maps.AppendAt
import Derived.Maps.OwnSet
import Derived.OwnWalkIn
import Derived.Sort.KeysCollected
import Derived.TacticsInMore
import Derived.Test.YtceklhjomhjipaaGreatDoorKm03
set_option maxHeartbeats 16000000
set_option maxRecDepth 1000000
set_option linter.all false
namespace Go.Proofs.YtceklhjomhjipaaGreatDoor
open Go.RowKit Go.Maps Go.Sort Go.Shelf
def Strs (w:World) (v:Value) (l:List (List UInt8)):Prop :=
 ∃ A c,v=.slice A l.length c∧(l≠[]→∃ b off,A=some ⟨b,off,none⟩∧b<w.heap.size∧∀ (j:Nat) x,l[j]?=some x→w.cell? ⟨b,off+j,none⟩=some (.string ⟨x.toArray⟩))
theorem Strs.later {w w':World} {v:Value} {l:List (List UInt8)} (h:Strs w v l) (hb:Below w.heap.size w w'):Strs w' v l:=by
 obtain ⟨A,c,rfl,h1⟩:=h
 refine ⟨A,c,rfl,fun hn=>?_⟩
 obtain ⟨b,off,rfl,hlt,hc⟩:=h1 hn
 exact ⟨b,off,rfl,zu hlt hb.size,fun j x hx=>(hb.cell (p:=⟨b,off+j,none⟩) hlt).trans (hc j x hx)⟩
theorem qCb (v:Value) (l:List (List UInt8)) (x:List UInt8) (w:World) (h:Strs w v l) (hl:l.length≤9223372036854775807) :
  Calls Tryz.prog 116 #[v,.string ⟨x.toArray⟩] w fun e w'=>e=.returned (.bool (l.contains x))∧w'=w:=by
 obtain ⟨A,c,rfl,h1⟩:=h
 by_cases hn:l=[]
 ·subst hn
  exact Tryz.slices_Contains_string_empty A c ⟨x.toArray⟩ w
 ·obtain ⟨b,off,rfl,hlt,hc⟩:=h1 hn
  have hz:(l.map fun x=>(⟨x.toArray⟩:ByteArray)).length=l.length:=by simp
  have:=Tryz.slices_Contains_string b off l.length c (l.map fun x=>⟨x.toArray⟩) ⟨x.toArray⟩ w (by simp) hl (fun j hj=>by
   rw [hz] at hj
   rw [hc j (l[j]) (zL hj)]
   simp [List.getD_eq_getElem?_getD,hj])
  have e:Lib.containsS ((l.map fun x=>(⟨x.toArray⟩:ByteArray)).take l.length) ⟨x.toArray⟩=l.contains x:=by
   rw [zn (by simp),Bool.eq_iff_iff,Lib.containsS_iff,List.contains_iff_mem]
   simp
  rw [e] at this
  exact this
def SetAt (w:World) (b n:Nat) (acc:List (List UInt8)):Prop :=
 ∃ D:DataW Unit,w.ownsMap Tryz.prog 9 (plainElem Tryz.prog 4) b n D∧∀ x,Maps.has D (.string x)=true↔x∈acc
theorem qMa (x:List UInt8):WideAt.IsKeyLit (Lit.string x):=by trivial
theorem qJ6 {D:DataW Unit} (hD:Maps.IsMap D) (x y:List UInt8) (d:DataW Unit):Maps.has (D.put (.string x) d) (.string y)=true↔y=x∨Maps.has D (.string y)=true:=by
 by_cases h:y=x
 ·subst h
  simp [Maps.has_put_same hD (qMa y)]
 ·rw [Maps.has_put_other (fun e=>h (by injection e)) d]
  simp [h]
theorem qH5 {w w':World} {k:TypeId} {R:Value→Option (DataW Unit×List MemPlace)} {b n:Nat} {D:DataW Unit} (h:w.ownsMap Tryz.prog k R b n D) (hb:Below w.heap.size w w'):w'.ownsMap Tryz.prog k R b n D:=by
 have hl:=h.lt
 obtain ⟨es,clock,h1,h2⟩:=h
 exact ⟨es,clock,(hb.block b hl).trans h1,h2⟩
theorem SetAt.later {w w':World} {b n:Nat} {acc:List (List UInt8)} (h:SetAt w b n acc) (hb:Below w.heap.size w w'):SetAt w' b n acc:=by
 obtain ⟨D,h1,h2⟩:=h
 exact ⟨D,qH5 h1 hb,h2⟩
theorem qL0 {w:World} {b n:Nat} {D:DataW Unit} {acc ss m:List (List UInt8)} (h1:w.ownsMap Tryz.prog 9 (plainElem Tryz.prog 4) b n D) (h2:∀ x,Maps.has D (.string x)=true↔x∈acc)
  (hm:Stl.Rise m) (hma:∀ x,x∈m↔x∈acc) (hss:ss.Perm (strKeys D)):ss.mergeSort (fun x y=>decide (x≤y))=m:=by
 obtain ⟨es,hD,hpw,_⟩:=h1.entries (string_keyed Tryz.underlying9)
 obtain ⟨es',hD',hko⟩:=h1.keysOf
 obtain rfl:es=es':=by rw [hD] at hD';simpa using hD'
 subst hD
 have hnd:m.Nodup:=List.Pairwise.imp (R:=(·<·)) (S:=(·≠·)) (fun {a b} h (e:a=b)=>Stl.blt_irrefl a (e▸h)) hm
 have hp:m.Perm (strKeys (.map es)):=perm_strKeys hpw (fun p hp=>by obtain ⟨v,hv⟩:=hko p hp;obtain ⟨x,_,hx,_⟩:=Maps.keyOf_str Tryz.underlying9 hv;exact ⟨x,hx⟩) hnd (fun x=>by rw [hma,h2])
 rw [show (fun x y:List UInt8=>decide (x≤y))=leB from rfl,mergeSort_of_perm (hss.trans hp.symm)]
 refine List.mergeSort_of_pairwise (hm.imp fun h=>?_)
 simpa using List.le_of_lt h
theorem Strs.grown {w w':World} {v:Value} {l:List (List UInt8)} {b n:Nat} {acc:List (List UInt8)} (h:Strs w v l) (hs:SetAt w b n acc) (hg:w.grownBy w' (some b)):Strs w' v l:=by
 obtain ⟨D,⟨es,clock,hb,_⟩,_⟩:=hs
 obtain ⟨A,c,rfl,h1⟩:=h
 refine ⟨A,c,rfl,fun hn=>?_⟩
 obtain ⟨g,off,rfl,hlt,hc⟩:=h1 hn
 refine ⟨g,off,rfl,zu hlt hg.size,fun j x hx=>?_⟩
 have:=hc j x hx
 have hne:g≠b:=by
  rintro rfl
  simp [World.cell?,hb] at this
 rw [zD1 (hg.block g hlt (fun e=>hne (by injection e)))]
 exact this
structure FSt (w0 W:World) (nv:Value) (b1 b2 b3:Nat) (names:List (List UInt8)) (pre:List (Nat×List UInt8)):Prop where
 nms:W.heap[b1]?=some (.cells #[nv] 22 (0,0))
 box:W.heap[b3]?=some (.cells #[.map (some b2)] 235 (0,0))
 strs:Strs W nv names
 set:SetAt W b2 pre.length ((pre.map (·.2)).filter fun w=>Stl.isName w&&names.contains w)
 old:w0.heap.size≤b2
 below:Below w0.heap.size w0 W
theorem FSt.later {w0 W W':World} {nv:Value} {b1 b2 b3:Nat} {names:List (List UInt8)} {pre:List (Nat×List UInt8)} (h:FSt w0 W nv b1 b2 b3 names pre) (hb:Below W.heap.size W W'):FSt w0 W' nv b1 b2 b3 names pre :=
 ⟨(hb.block _ (zN1 h.nms)).trans h.nms,(hb.block _ (zN1 h.box)).trans h.box,h.strs.later hb,h.set.later hb,h.old,h.below.trans (hb.mono h.below.size)⟩
theorem FSt.more {w0 W W':World} {nv:Value} {b1 b2 b3:Nat} {names:List (List UInt8)} {pre:List (Nat×List UInt8)} {m:Nat×List UInt8} (h:FSt w0 W nv b1 b2 b3 names pre) (hw:(Stl.isName m.2&&names.contains m.2)=false) (hb:Below W.heap.size W W') :
  FSt w0 W' nv b1 b2 b3 names (pre++[m]):=by
 have h':=h.later hb
 refine ⟨h'.nms,h'.box,h'.strs,?_,h'.old,h'.below⟩
 obtain ⟨D,h1,h2⟩:=h'.set
 refine ⟨D,h1.mono (by simp),fun x=>?_⟩
 rw [h2]
 rw [zU,List.filter_append,zV,List.map_nil,zI,hw]
 simp
theorem qNM {w0 W:World} {nv:Value} {b1 b2 b3:Nat} {names:List (List UInt8)} {pre:List (Nat×List UInt8)} (at_:Nat) (wd:List UInt8) (h:FSt w0 W nv b1 b2 b3 names pre) (hpre:pre.length<1000000) (hwd:wd.length≤1000000) (hn:names.length≤1000000) :
  Calls Tryz.prog 191 #[.int .i64 at_,.string ⟨wd.toArray⟩,.pointer (some ⟨b1,0,none⟩),.pointer (some ⟨b3,0,none⟩)] W fun e W'=>e=.returned (.tuple #[])∧FSt w0 W' nv b1 b2 b3 names (pre++[(at_,wd)]):=by
 have HS:=Hh h
 clear h
 go_enter Tryz.func191,Tryz.ntmps191
 cases hn1:Stl.isName wd
 ·go_wp2_with fail
  refine (qDp _ _ (by omega)).mono ?_
  rintro e w1 ⟨rfl,hb⟩
  rw [hn1]
  have HB:=Hh hb
  clear hb
  go_wp2
  go_end0
  exact ⟨rfl,HS.out.more (m:=(at_,wd)) (by simp [hn1]) HB.out⟩
 ·go_wp2_with fail
  refine (qDp _ _ (by omega)).mono ?_
  rintro e w1 ⟨rfl,hb⟩
  rw [hn1]
  have HS1:=Hh (HS.out.later hb)
  clear hb HS
  have c1:=cell_of_one HS1.out.nms
  cases hn2:names.contains wd
  ·go_wp2_with fail
   refine (qCb _ _ _ _ HS1.out.strs (by omega)).mono ?_
   rintro e w2 ⟨rfl,rfl⟩
   rw [hn2]
   go_wp2
   go_end0
   exact ⟨rfl,HS1.out.more (m:=(at_,wd)) (by show (Stl.isName wd&&names.contains wd)=false;rw [hn1,hn2];rfl) (zB _ _)⟩
  ·go_wp2_with fail
   refine (qCb _ _ _ _ HS1.out.strs (by omega)).mono ?_
   rintro e w2 ⟨rfl,rfl⟩
   rw [hn2]
   have c3:=cell_of_one HS1.out.box
   obtain ⟨D,hown,hD⟩:=HS1.out.set
   have HD:=Hh hD
   have HO:=Hh hown
   have HK:=Hh (WideMaps.keyOf_string_mk (P:=Tryz.prog) Tryz.underlying9 (show (ByteArray.mk wd.toArray).size≤maxLen by simp [ByteArray.size,maxLen];omega))
   clear hD
   go_wp2_with (at_mapUpdate;refine wpList_mapUpdate_own _ rfl _ _ _ 235 rfl 9 4 (string_keyed Tryz.underlying9) Tryz.underlying235 _ b2 pre.length _ rfl HO.out (by unfold maxLen;omega) _ _ (Lit.string wd) rfl rfl HK.out _ [] (plainElem_bool Tryz.underlying4 true) ?_;intro w3 hown3 hg3)
   have hne1:b1≠b2:=by
    rintro rfl
    obtain ⟨es,clock,hb,_⟩:=HO.out
    rw [HS1.out.nms] at hb
    cases hb
   have hne3:b3≠b2:=by
    rintro rfl
    obtain ⟨es,clock,hb,_⟩:=HO.out
    rw [HS1.out.box] at hb
    cases hb
   have hS:=HS1.out
   go_end0
   refine ⟨rfl,(hg3.block _ (zN1 hS.nms) (fun e=>hne1 (by injection e))).trans hS.nms,(hg3.block _ (zN1 hS.box) (fun e=>hne3 (by injection e))).trans hS.box,hS.strs.grown hS.set hg3,⟨_,by simpa using hown3,fun x=>?_⟩,hS.old,hS.below.trans ⟨hg3.os,hg3.tape,hg3.output,hg3.size,fun k hk=>hg3.block k (zu hk hS.below.size) (fun e=>by injection e with e;have:=hS.old;omega)⟩⟩
   rw [qJ6 hown.isMap,HD.out,zU,List.filter_append,zV,List.map_nil,zI,hn1,hn2]
   simp [or_comm]
theorem qJp (m:Nat):AnyZ.SortsIn Tryz.prog Tryz.sortedS_ren Fence.wide m :=
 ⟨fun blk off cap ss W hH hblk hsz=>zI1.2 (AnyM.slices_Sort_string Tryz.sortS blk off cap ss W hH hblk hsz),
  fun p cap W=>zI1.2 (AnyM.slices_Sort_string_none Tryz.sortS p cap W)⟩
theorem qKs (mb:Option Nat) (W:World):Calls Tryz.prog 153 #[.map mb] W fun e w'=>e=.returned (.func (.func 210) #[] #[.pointer (some ⟨W.heap.size,0,none⟩)])∧w'=W.alloc (.cells #[.map mb] 235) :=
 zI1.1 (AnyZ.keys_in Tryz.keysMSB Fence.wide 5 trivial rfl mb W)
theorem qLo (b nn:Nat) (D0:DataW Unit) (R:Value→Option (DataW Unit×List MemPlace)) (w:World) (hown:w.ownsMap Tryz.prog 9 R b nn D0) (hmax:Maps.size D0≤maxLen) (hbytes:Maps.size D0*16≤140737488355328) :
  Calls Tryz.prog 152 #[.func (.func 210) #[] #[.pointer (some ⟨w.heap.size,0,none⟩)]] (w.alloc (.cells #[.map (some b)] 235)) fun e w'=>∃ (v:Value) (ss:List (List UInt8)),e=.returned v∧ss.Perm (strKeys D0) ∧
   w'.ownsRow (w.alloc (.cells #[.map (some b)] 235)).heap.size 9 1 v ss.length ((ss.mergeSort (fun x y=>decide (x≤y))).map encStr)∧(v=.slice none 0 0↔ss=[])∧Below (w.alloc (.cells #[.map (some b)] 235)).heap.size (w.alloc (.cells #[.map (some b)] 235)) w':=by
 have hbl:=hown.lt
 have hseq:SeqGives Fence.wide 2 Tryz.prog 210 #[.pointer (some ⟨w.heap.size,0,none⟩)] encStr (fun ss=>ss.Perm (strKeys D0)) (Maps.size D0) (w.alloc (.cells #[.map (some b)] 235)) :=
  AnyZ.keys_gives (ρ:=Tryz.keysMSB_ren) { Tryz.keysMSB with } Fence.wide _ trivial rfl (by omega) w.heap.size b nn D0 _ (by simp) (by simp) (by
   obtain ⟨es,clock,hb,Ft,hs,hD⟩:=hown
   exact ⟨es,clock,(Below.heap_alloc _ _ b hbl).trans hb,Ft,hs,hD⟩)
 exact zI1.1 (AnyZ.sorted_in Tryz.sortedS Fence.wide 5 trivial trivial trivial trivial rfl (by omega) (qJp _) (enters_of Tryz.func129 (by kernel_rfl) rfl) 210 #[.pointer (some ⟨w.heap.size,0,none⟩)] trivial (enters_of Tryz.func210 (by kernel_rfl) rfl) _ _ hmax hbytes _ hseq)
theorem qAQ {w:World} {base:Nat} {v:Value} {n:Nat} {l:List (List UInt8)} (h:w.ownsRow base 9 1 v n (l.map encStr)):Strs w v l:=by
 have hc:=@World.ownsRow.cells _ _ _ _ _ _ _ h
 have hlt:=h.lt
 obtain ⟨h1,h2⟩:=h
 have hn:n=l.length:=by simpa using h1.symm
 subst hn
 rcases h2 with ⟨rfl,h2⟩ | ⟨g,cap,cur,rfl,h2⟩
 ·refine ⟨none,0,?_,fun hne=>?_⟩
  ·rw [h2]
  ·exact absurd (zR.1 h2) hne
 ·refine ⟨_,cap,rfl,fun hne=>⟨g,0,rfl,(hlt g rfl).2,fun j x hx=>?_⟩⟩
  have:=hc (g:=g) rfl j (encStr x) (by simp [hx])
  show w.cell? ⟨g,0+j,none⟩=_
  by_cases hj:j=0
  ·subst hj;exact this
  ·simpa [Addr.add,hj] using this
theorem qHP {l:List UInt8} {pre:List (Nat×List UInt8)} {at_:Nat} {wd:List UInt8} (h:∃ rest,pre++(at_,wd)::rest=Stl.mentsAt 0 l):pre.length<l.length:=by
 obtain ⟨rest,h⟩:=h
 have:=Stl.mentsAt_length 0 l
 rw [← h] at this
 simp at this
 omega
theorem qQk (l:List UInt8):(Stl.word l).length≤l.length:=by
 unfold Stl.word
 exact (List.takeWhile_prefix _).length_le
theorem qJd (args:Array Value) (w:World):(callFunc 191 args).run Tryz.prog w=.ok (.enter 191 args) w:=enters_of Tryz.func191 (by kernel_rfl) rfl args w
theorem qLv {w0 W:World} {nv:Value} {b1 b2 b3:Nat} {names:List (List UInt8)} {l:List UInt8} (hF:FSt w0 W nv b1 b2 b3 names []) (hl:l.length≤1000000) (hn:names.length≤1000000) :
  Calls Tryz.prog 190 #[.string ⟨l.toArray⟩,.func (.func 191) #[] #[.pointer (some ⟨b1,0,none⟩),.pointer (some ⟨b3,0,none⟩)]] W fun e W'=>e=.returned (.tuple #[])∧FSt w0 W' nv b1 b2 b3 names (Stl.mentsAt 0 l):=by
 refine qIm l (by omega) _ _ qJd (fun pre W=>FSt w0 W nv b1 b2 b3 names pre) (fun pre W W' h hb=>h.later hb) ?_ W hF
 intro pre at_ W1 h1 hat hr
 have hp:=qHP hr
 have hw:=qQk (l.drop at_)
 rw [List.length_drop] at hw
 exact qNM at_ (Stl.word (l.drop at_)) h1 (by omega) (by omega) hn
theorem qPt (l:List UInt8) (hl:l.length≤1000000) (nv:Value) (names:List (List UInt8)) (hn:names.length≤1000000) (w:World) (hs:Strs w nv names) :
  Calls Tryz.prog 128 #[.string ⟨l.toArray⟩,nv] w fun e w'=>∃ v,e=.returned v∧w'.ownsRow 0 9 1 v (Stl.found l names).length ((Stl.found l names).map encStr)∧Below w.heap.size w w':=by
 have hmm:=@run_makeMap Tryz.prog
 obtain ⟨A,c,rfl,h1⟩:=id hs
 clear h1
 go_enter Tryz.func128,Tryz.ntmps128
 have HSt:=Hh hs
 clear hs
 go_wp2_with fail
 have h0:FSt w (((w.alloc (.cells #[.slice A names.length c] 22)).alloc (.map #[] 0)).alloc (.cells #[.map (some (w.heap.size+1))] 235)) (.slice A names.length c) w.heap.size (w.heap.size+1) (w.heap.size+1+1) names []:=by
  have hbl:Below w.heap.size w (((w.alloc (.cells #[.slice A names.length c] 22)).alloc (.map #[] 0)).alloc (.cells #[.map (some (w.heap.size+1))] 235)):=qBL w _ _ _
  obtain ⟨k1,k2,k3⟩:=qKq w _ (.cells #[.slice A names.length c] 22) (.map #[] 0) (.cells #[.map (some (w.heap.size+1))] 235) (zB _ _)
  refine ⟨k1,k3,HSt.out.later hbl,?_,by omega,hbl⟩
  ·refine ⟨.map [],?_,fun x=>by simp [Maps.has]⟩
   have:=World.ownsMap_made (H:=Unit) (w.alloc (.cells #[.slice A names.length c] 22)) Tryz.prog 9 (plainElem Tryz.prog 4)
   have:=this.alloc (.cells #[.map (some (w.heap.size+1))] 235)
   simpa using this
 refine (qLv h0 hl hn).mono ?_
 rintro e w1 ⟨rfl,hF⟩
 have c3:=cell_of_one hF.box
 obtain ⟨D,hown,hD⟩:=hF.set
 have HD:=Hh hD
 have HF:=Hh hF
 have HO:=Hh hown
 clear hD hF hown h0
 have hk:=Stl.mentsAt_length 0 l
 have hz:=HO.out.size_le
 have HK:=Hh hk
 have HZ:=Hh hz
 clear hk hz HSt hmm
 go_wp2_with (first
  | (go_at_call 153;refine (qKs _ _).mono ?_;rintro e w' ⟨rfl,rfl⟩)
  | (go_at_call 152;refine (qLo (w.heap.size+1) _ D _ w1 HO.out (by have:=HK.out;have:=HZ.out;unfold maxLen;omega) (by have:=HK.out;have:=HZ.out;omega)).mono ?_;rintro e w2 ⟨v,ss,rfl,hss,hrow,hnil,hb⟩))
 have hm:ss.mergeSort (fun x y=>decide (x≤y))=Stl.found l names:=qL0 HO.out HD.out (Stl.rise_insAll _ _ Stl.rise_nil) (fun x=>by
  unfold Stl.found
  rw [Stl.mem_insAll,Stl.mentsAt_words]
  simp) hss
 have hlen:ss.length=(Stl.found l names).length:=by rw [← hm,List.length_mergeSort]
 rw [hm,hlen] at hrow
 have hS:w2.ownsRow 0 9 1 v (Stl.found l names).length ((Stl.found l names).map encStr):=by
  obtain ⟨k1,k2⟩:=hrow
  refine ⟨k1,?_⟩
  rcases k2 with k2 | ⟨g,cap,cur,k3,_,k4⟩
  ·exact .inl k2
  ·exact .inr ⟨g,cap,cur,k3,zx _,k4⟩
 have hB:Below w.heap.size w w2:=HF.out.below.trans (((Below.alloc (zB _ w1) (zq _) _).trans (hb.mono (by simp))).mono HF.out.below.size)
 clear hrow hss hm hnil hb hlen
 go_ret
 exact ⟨v,rfl,hS,hB⟩
theorem Strs.cellAt {w:World} {A:Option Addr} {n c:Nat} {l:List (List UInt8)} (h:Strs w (.slice A n c) l) {j:Nat} (hj:j<l.length):∃ b off,A=some ⟨b,off,none⟩∧b<w.heap.size∧w.cell? ⟨b,off+j,none⟩=some (.string ⟨(l[j]).toArray⟩):=by
 obtain ⟨A',c',e,h1⟩:=h
 injection e with e1 e2 e3
 subst e1
 obtain ⟨b,off,h2,h3,h4⟩:=h1 (by intro hn;subst hn;simp at hj)
 exact ⟨b,off,h2,h3,h4 j _ (zL hj)⟩
end Go.Proofs.YtceklhjomhjipaaGreatDoor
namespace Stl
inductive Nd where
 | mk (kind data:List UInt8) (exec:Bool) (kids:List (List UInt8×Nd))
def Nd.kind:Nd→List UInt8 | .mk k _ _ _=>k
def Nd.data:Nd→List UInt8 | .mk _ d _ _=>d
def Nd.exec:Nd→Bool | .mk _ _ e _=>e
def Nd.kids:Nd→List (List UInt8×Nd) | .mk _ _ _ ks=>ks
structure It where
 path:List UInt8
 deep:Nat
 n:Nd
section
variable (own:Nd→Nat)
mutual
def chk:Nd→Nat→Nat→Nat×Nat
 | .mk k d e ks,deep,c=>if 8<deep then (9,c+1) else if 200<c+1 then (8,c+1) else if own (.mk k d e ks)=0 then chkL ks (deep+1) (c+1) else (own (.mk k d e ks),c+1)
def chkL:List (List UInt8×Nd)→Nat→Nat→Nat×Nat
 | [],_,c=>(0,c)
 | (_,x)::r,deep,c=>if (chk x deep c).1=0 then chkL r deep (chk x deep c).2 else chk x deep c
end
def qO4 (most:Nat) (x:It):List It:=(x.n.kids.take (most+1)).map fun p=>⟨x.path++47::p.1,x.deep+1,p.2⟩
def pre (most deep:Nat):Nat→List It→List It
 | 0,l=>l
 | _,[]=>[]
 | f+1,x::r=>x::pre most deep f (if deep<x.deep then r else qO4 most x++r)
theorem qOK (n:Nd) (deep c:Nat) (h:200≤c):(chk own n deep c).1≠0:=by
 cases n
 unfold chk
 split
 ·simp
 ·rw [zM1 (by omega)];simp
theorem qQ2 (n:Nd) (deep c:Nat) (h:(chk own n deep c).1=0):c<200:=by
 rcases zv c 200 with h2 | h2
 ·exact h2
 ·exact absurd h (qOK own n deep c h2)
theorem qJJ:∀ (l:List (List UInt8×Nd)) (deep c:Nat),c≤200→(chkL own l deep c).1=0→(chkL own l deep c).2≤200
 | [],_,c,hc,_=>by simpa [chkL] using hc
 | (_,x)::r,deep,c,hc,h=>by
  unfold chkL at h ⊢
  by_cases h1:(chk own x deep c).1=0
  ·rw [zM1 h1] at h ⊢
   refine qJJ r deep _ ?_ h
   rcases zv 200 (chk own x deep c).2 with h2 | h2
   ·exfalso
    cases x with
    | mk k d e ks =>
     unfold chk at h1 h2
     split at h1
     ·simp at h1
     ·rename_i hd
      rw [zL1 hd] at h2
      split at h1
      ·simp at h1
      ·rename_i hd2
       rw [zL1 hd2] at h2
       split at h1
       ·rename_i hd3
        rw [zM1 hd3] at h2
        have:=qJJ ks (deep+1) (c+1) (by omega) h1
        omega
       ·rename_i hd3
        exact hd3 h1
   ·exact h2
  ·rw [zL1 h1] at h
   exact absurd h h1
theorem chk_two_le (x:Nd) (deep c:Nat) (h1:(chk own x deep c).1=0):(chk own x deep c).2≤200:=by
 have hc:=qQ2 own x deep c h1
 have h:=qJJ own [([],x)] deep c (by omega)
 simp only [chkL] at h
 rw [zM1 h1] at h
 exact h rfl
mutual
def flat:Nd→List UInt8→Nat→List It
 | .mk k d e ks,path,deep=>⟨path,deep,.mk k d e ks⟩::flatL ks path (deep+1)
def flatL:List (List UInt8×Nd)→List UInt8→Nat→List It
 | [],_,_=>[]
 | (nm,x)::r,path,deep=>flat x (path++47::nm) deep++flatL r path deep
end
theorem qKW:∀ (l:List (List UInt8×Nd)) (path:List UInt8) (deep:Nat),flatL l path deep=(l.map fun p=>(⟨path++47::p.1,deep,p.2⟩:It)).flatMap fun x=>flat x.n x.path x.deep
 | [],_,_=>rfl
 | (nm,x)::r,path,deep=>by simp [flatL,qKW r path deep]
theorem qQv (x:It):flat x.n x.path x.deep=x::(x.n.kids.map fun p=>(⟨x.path++47::p.1,x.deep+1,p.2⟩:It)).flatMap fun x=>flat x.n x.path x.deep:=by
 obtain ⟨p,d,n⟩:=x
 cases n
 simp [flat,qKW,Nd.kids]
end
end Stl
