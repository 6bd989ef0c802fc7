/- Lemmas. -/
import Derived.Test.YtbmkaekimccdgaaGreatDoorBm15
import Derived.Test.YtbmkaekimccdgaaGreatDoorBm19
set_option maxHeartbeats 16000000
set_option maxRecDepth 1000000
set_option linter.all false
namespace Go.Proofs.YtbmkaekimccdgaaGreatDoor
open Go.RowKit Go.Sort Go.Shelf Stl
theorem qD (p:Nat→Addr){c:Nat}(h:c≠0):jK p c=.iface 376 (.pointer (some (p c))):=by simp[jK,h]
theorem Errs.cell {w:World}{p:Nat→Addr}(h:Errs w p)(c:Nat)(h1:1≤c)(h2:c≤13):w.cell? ⟨wA c,0,none⟩=some (jK p c):=by
 rw[qD p (by omega)];exact(h.at_ c h1 h2).1
def mL (p:Nat→Addr):Except Nat (List UInt8)→Array Value
 | .ok s=>#[.string ⟨s.toArray⟩,.nilIface]
 | .error k=>#[.string ⟨#[]⟩,jK p k]
section
variable {w:World}{c:Nat→Col}{b:Nat}{T:Tab}{p:Nat→Addr}
theorem xM (h:TabAt w c b T)(ht:yX T)(hD:T.disk.length≤1000000)(n:Nat)(hn:n≤1000000)(hE:Errs w p) :
  Calls Tryz.prog 186 #[.pointer (some ⟨b,0,none⟩),.int .i64 n] w fun e w'=>e=.returned (.tuple (mL p (T.read n)))∧Below w.heap.size w w':=by
 cases hx:T.at_ n with
 | none =>
  have hg:=hE.cell 6 (by omega) (by omega);rw[qD p (by omega)] at hg;refine(qIY h n hn hx hg).mono ?_;rintro e w' ⟨rfl,h2⟩;refine⟨?_,h2⟩;simp only[Tab.read,hx,mL];rw[qD p (by omega)]
 | some x =>
  have hg:=hE.cell 11 (by omega) (by omega);rw[qD p (by omega)] at hg;refine(qJ4 h ht hD n hn hx hg).mono ?_;rintro e w' ⟨rfl,h2⟩;refine⟨?_,h2⟩;simp only[Tab.read,hx,mL];by_cases hc:crc (T.raw x)=x.sum
  ·rw[zM1 hc,zM1 hc]
  ·rw[zL1 hc,zL1 hc];rfl
end
theorem fix3 {w:World}{B:Nat}{a b d:Obj}(h0:w.heap[B]?=some a)(h1:w.heap[B+1]?=some b)(h2:w.heap[B+2]?=some d):∀ (i:Nat) o,[a,b,d][i]?=some o→w.heap[B+i]?=some o
 | 0,o,h=>by cases h;exact h0
 | 1,o,h=>by cases h;exact h1
 | 2,o,h=>by cases h;exact h2
 | i+3,o,h=>by cases h
theorem qK2 (n:Nd)(path:List UInt8)(deep:Nat):(⟨path,deep,n⟩:It)∈Stl.flat n path deep:=by
 obtain⟨k,d,e,ks⟩:=n;rw[Stl.flat];simp
theorem qMA {k d:List UInt8}{e:Bool}{path:List UInt8}{deep:Nat}:∀ {ks:List (List UInt8×Nd)} {j:Nat} (hj:j<ks.length),∀ x∈Stl.flat ks[j].2 (path++47::ks[j].1) (deep+1),x∈Stl.flat (.mk k d e ks) path deep:=by
 intro ks j hj x hx;rw[Stl.flat];refine List.mem_cons_of_mem _ ?_;have h:=congrArg (fun l=>Stl.flatL l path (deep+1)) (show ks=ks.take j++ks[j]::ks.drop (j+1) by rw[← zF hj,List.take_append_drop]);simp only[Stl.flatL_append,Stl.flatL] at h;rw[h];simp only[zX];exact .inr (.inl hx)
theorem qGB {w:World}{g i0 i1 i2 i3:Nat}{u0 u1 u2 u3:Value}{a b d:Nat}{v0 v1 v2 v3 v4 v5 v6 v7 v8 v9 va:Value}
  (h:w.cell? ⟨a,3,none⟩=some v0∧w.cell? ⟨b,0,none⟩=some v1∧w.cell? ⟨b,1,none⟩=some v2∧w.cell? ⟨b,2,none⟩=some v3∧w.cell? ⟨b,3,none⟩=some v4∧w.cell? ⟨b,4,none⟩=some v5∧w.cell? ⟨d,0,none⟩=some v6∧w.cell? ⟨d,1,none⟩=some v7∧w.cell? ⟨d,2,none⟩=some v8∧w.cell? ⟨d,3,none⟩=some v9∧w.cell? ⟨d,4,none⟩=some va)
  (hg:g≠a∧g≠b∧g≠d) :
  let W:=((((w.setCell ⟨g,i0,none⟩ u0).setCell ⟨g,i1,none⟩ u1).setCell ⟨g,i2,none⟩ u2).setCell ⟨g,i3,none⟩ u3)
  W.cell? ⟨a,3,none⟩=some v0∧W.cell? ⟨b,0,none⟩=some v1∧W.cell? ⟨b,1,none⟩=some v2∧W.cell? ⟨b,2,none⟩=some v3∧W.cell? ⟨b,3,none⟩=some v4∧W.cell? ⟨b,4,none⟩=some v5∧W.cell? ⟨d,0,none⟩=some v6∧W.cell? ⟨d,1,none⟩=some v7∧W.cell? ⟨d,2,none⟩=some v8∧W.cell? ⟨d,3,none⟩=some v9∧W.cell? ⟨d,4,none⟩=some va:=by
 obtain⟨h0,h1,h2,h3,h4,h5,h6,h7,h8,h9,ha⟩:=h;exact⟨qX h0 hg.1,qX h1 hg.2.1,qX h2 hg.2.1,qX h3 hg.2.1,qX h4 hg.2.1,qX h5 hg.2.1,qX h6 hg.2.2,qX h7 hg.2.2,qX h8 hg.2.2,qX h9 hg.2.2,qX ha hg.2.2⟩
theorem dD (w:World):(zeroValue 3).run Tryz.prog w=.ok (.int .i64 0) w:=by kernel_rfl
def uN (T:Tab)(F:List (List UInt8×Nat))(path:List UInt8)(q:List UInt8×Nd):Nd:=match vU T F q.2 (path++47::q.1) with | .ok y=>y | .error _=>q.2
theorem qCZ (T:Tab)(F:List (List UInt8×Nat))(path:List UInt8):∀ ks:List (List UInt8×Nd),(∀ q∈ks,∃ y,vU T F q.2 (path++47::q.1)=.ok y)→jR T F ks path=.ok (ks.map fun q=>(q.1,uN T F path q))
 | [],_=>rfl
 | (nm,x)::r,h=>by
  obtain⟨y,hy⟩:=h (nm,x) (by simp);have hr:=qCZ T F path r (fun q hq=>h q (by simp[hq]));simp only at hy;rw[jR,hy];simp only[hr,zV,uN,hy]
theorem qCb (T:Tab)(F:List (List UInt8×Nat))(path:List UInt8){cd:Nat}:∀ (ks:List (List UInt8×Nd)) (j:Nat) (hj:j<ks.length),(∀ q∈ks.take j,∃ y,vU T F q.2 (path++47::q.1)=.ok y)→vU T F ks[j].2 (path++47::ks[j].1)=.error cd→jR T F ks path=.error cd
 | (nm,x)::r,0,_,_,h=>by
  simp only[List.getElem_cons_zero] at h;rw[jR,h]
 | (nm,x)::r,j+1,hj,h,he=>by
  obtain⟨y,hy⟩:=h (nm,x) (by simp);have hr:=qCb T F path r j (by simpa using hj) (fun q hq=>h q (by simp[hq])) (by simpa using he);simp only at hy;rw[jR,hy];simp only[hr]
structure FillEnv (w:World)(c:Nat→Col)(b bt bf:Nat)(T:Tab)(F:List (List UInt8×Nat))(p:Nat→Addr):Prop where
 own:w.cell? ⟨b,0,none⟩=some (.pointer (some ⟨bt,0,none⟩))
 tab:TabAt w c bt T
 ok:yX T
 disk:T.disk.length≤1000000
 files:vM w bf F.length (fileAt F)
 small:∀ q∈F,q.2≤1000000
 errs:Errs w p
theorem FillEnv.below {w w':World}{c:Nat→Col}{b bt bf:Nat}{T:Tab}{F:List (List UInt8×Nat)}{p:Nat→Addr}(h:FillEnv w c b bt bf T F p)(hb:Below w.heap.size w w'):FillEnv w' c b bt bf T F p :=
 ⟨(hb.cell (p:=⟨b,0,none⟩) (lt_of_cell h.own)).trans h.own,h.tab.below hb,h.ok,h.disk,h.files.ext (c:=fun _=>Col.free) (S:=S0) (Ext.of_below hb _ S0) rfl rfl,h.small,h.errs.later hb⟩
theorem FillEnv.num {w:World}{c:Nat→Col}{b bt bf:Nat}{T:Tab}{F:List (List UInt8×Nat)}{p:Nat→Addr}(h:FillEnv w c b bt bf T F p)(s:List UInt8):(jV F s).getD 0≤1000000:=by
 unfold jV
 cases hf:F.find? fun q=>q.1==s with
 | none=>simp
 | some q=>simpa using h.small q (zf hf)
theorem FillEnv.look {w:World}{c:Nat→Col}{b bt bf:Nat}{T:Tab}{F:List (List UInt8×Nat)}{p:Nat→Addr}(h:FillEnv w c b bt bf T F p)(s:List UInt8)(hs:s.length≤2000000) :
  (Instr.lookup 201 (.map (some bf)) (.string ⟨s.toArray⟩) false).run Tryz.prog w=.ok (.int .i64 ((jV F s).getD 0:Nat)) w:=by
 have:=h.files.get (t:=201) okS Tryz.underlying201 (dD w) (i:=s) (by unfold maxLen;omega);simp only[mkS,fileAt] at this;rw[this]
 cases jV F s<;>rfl
def nV (p:Nat→Addr)(P:Nat→Prop)(w:World)(r:Except Nat Nd)(ev:Ending)(w':World):Prop :=
 ∃ (a0 a1:ByteArray) (a2:Bool) (A:Option Addr) (m cp:Nat) (er:Value),ev=.returned (.tuple #[.agg #[.string a0,.string a1,.bool a2,.slice A m cp],er]) ∧
  match r with
  | .ok y=>er=.nilIface∧NodeP (fun b=>P b∨w.heap.size≤b) w' y [.string a0,.string a1,.bool a2,.slice A m cp]
  | .error cd=>er=jK p cd∧cd≠0
theorem qHc {T:Tab}{n cd:Nat}(h:T.read n=.error cd):cd≠0:=by
 unfold Tab.read at h;split at h
 ·cases h;decide
 ·split at h
  ·cases h
  ·cases h;decide
theorem qJc (T:Tab)(n:Nat)(p:Nat→Addr)(ht:yX T):∃ (s:List UInt8) (er:Value),mL p (T.read n)=#[.string ⟨s.toArray⟩,er]∧s.length≤1000000∧(match T.read n with | .ok t=>s=t∧er=.nilIface | .error k=>er=jK p k):=by
 cases h:T.read n with
 | error k=>exact⟨[],jK p k,rfl,by simp,rfl⟩
 | ok s =>
  refine⟨s,.nilIface,rfl,?_,rfl,rfl⟩;unfold Tab.read at h
  cases hx:T.at_ n with
  | none=>rw[hx] at h;cases h
  | some x =>
   rw[hx] at h;simp only at h;split at h
   ·cases h
    have:=ht.bytes n x hx;unfold Tab.raw;rw[List.length_take];omega
   ·cases h
theorem qH9 {w1 w5:World}{b bt B bf:Nat}{v1:Value}{cs:Array Value}{t:TypeId}(hb5:Below w1.drew.heap.size w1.drew w5)(c0:w1.cell? ⟨b,0,none⟩=some (.pointer (some ⟨bt,0,none⟩)))(q4:w1.cell? ⟨B+1,4,none⟩=some (.map (some bf)))(q1:w1.cell? ⟨B,1,none⟩=some v1)
  (hbl:b<w1.heap.size) (hes:B+1<w1.heap.size) (hbs:B<w1.heap.size) (hbx:w1.heap[B]?=some (.cells cs t (0,0))) (hne:b≠B) (u:Value) :
  (w5.cell? ⟨b,0,none⟩=some (.pointer (some ⟨bt,0,none⟩))∧w5.cell? ⟨B+1,4,none⟩=some (.map (some bf))) ∧
  ((w5.setCell ⟨B,1,none⟩ u).cell? ⟨b,0,none⟩=some (.pointer (some ⟨bt,0,none⟩))∧(w5.setCell ⟨B,1,none⟩ u).cell? ⟨B+1,4,none⟩=some (.map (some bf)))∧w5.cell? ⟨B,1,none⟩=some v1∧w5.frozen? ⟨B,1,none⟩=false:=by
 have hW:Below w1.heap.size w1 w5:=⟨hb5.os,hb5.tape,hb5.output,hb5.size,hb5.block⟩;have a1:=(hW.cell (p:=⟨b,0,none⟩) hbl).trans c0;have a2:=(hW.cell (p:=⟨B+1,4,none⟩) hes).trans q4;exact⟨⟨a1,a2⟩,⟨kX a1 (fun e=>hne e.symm),kX a2 (by omega)⟩,(hW.cell (p:=⟨B,1,none⟩) hbs).trans q1,qC ((hW.block B hbs).trans hbx) 1⟩
theorem NodeP.redata {P:Nat→Prop}{w:World}{k d s:List UInt8}{e:Bool}{ks:List (List UInt8×Nd)}{A:Option Addr}{cap:Nat}(h:NodeP P w (.mk k d e ks) [.string ⟨k.toArray⟩,.string ⟨d.toArray⟩,.bool e,.slice A ks.length cap])(hs:s.length≤140737488355328) :
  NodeP P w (.mk k s e ks) [.string ⟨k.toArray⟩,.string ⟨s.toArray⟩,.bool e,.slice A ks.length cap]:=by
 unfold NodeP at h ⊢;obtain⟨A',c',h1,h2,h3⟩:=h;simp only[zD,zC1,and_true,true_and] at h1;obtain⟨rfl,rfl⟩:=h1;exact⟨A,cap,rfl,⟨h2.1,h2.2.1,h2.2.2.1,hs⟩,h3⟩
theorem qDu (c:Nat→Col)(b bt bf:Nat)(T:Tab)(F:List (List UInt8×Nat))(p:Nat→Addr)(e0 e1:ByteArray)(e2b:Bool)(e3:Option Addr)(e3n e3c:Nat):∀ (N:Nat) (n:Nd) (vs:List Value) (P:Nat→Prop) (path:List UInt8) (deep:Nat) (w:World),Stl.wt n≤N→NodeP P w n vs→(∀ x∈Stl.flat n path deep,x.path.length≤1000000)→xG path→FillEnv w c b bt bf T F p →
  Calls Tryz.prog 151 #[.pointer (some ⟨b,0,none⟩),.agg vs.toArray,.string ⟨path.toArray⟩,.agg #[.string e0,.string e1,.bool e2b,.slice e3 e3n e3c,.map (some bf)]] w fun ev w'=>Below w.heap.size w w'∧nV p P w (vU T F n path) ev w'
 | 0,n,vs,P,path,deep,w,hN,_,_,_,_=>by obtain⟨k,d,e,ks⟩:=n;simp[Stl.wt] at hN
 | N+1,.mk k d e ks,vs,P,path,deep,w,hN,h,hpl,hsl,hev=>by
  have IH:=Hh (qDu c b bt bf T F p e0 e1 e2b e3 e3n e3c N);obtain⟨A,cap,rfl⟩:=h.open;have HM:=Hh (show Stl.wtL ks≤N by simp only[Stl.wt] at hN;omega);have hpath:path.length≤1000000:=hpl ⟨path,deep,.mk k d e ks⟩ (by rw[Stl.flat];simp);have HPL:=Hh hpl;have HSL:=Hh hsl;have HEV:=Hh hev;have hb1:=xF w (.cells #[.string ⟨k.toArray⟩,.string ⟨d.toArray⟩,.bool e,.slice A ks.length cap] 134) (.cells #[.string e0,.string e1,.bool e2b,.slice e3 e3n e3c,.map (some bf)] 203) (.cells #[.string ⟨#[]⟩,.string ⟨#[]⟩,.bool false,.slice none 0 0] 134);have hx:=dZ w _ (.cells #[.string ⟨k.toArray⟩,.string ⟨d.toArray⟩,.bool e,.slice A ks.length cap] 134) (.cells #[.string e0,.string e1,.bool e2b,.slice e3 e3n e3c,.map (some bf)] 203) (.cells #[.string ⟨#[]⟩,.string ⟨#[]⟩,.bool false,.slice none 0 0] 134) (zB _ _);have hsz:(((w.alloc (.cells #[.string ⟨k.toArray⟩,.string ⟨d.toArray⟩,.bool e,.slice A ks.length cap] 134)).alloc (.cells #[.string e0,.string e1,.bool e2b,.slice e3 e3n e3c,.map (some bf)] 203)).alloc (.cells #[.string ⟨#[]⟩,.string ⟨#[]⟩,.bool false,.slice none 0 0] 134)).heap.size=w.heap.size+3:=by simp
  have HND:=Hh h;have HBD:=Hh (show ks.length≤1759218604441∧k.length≤140737488355328∧d.length≤140737488355328 by
   unfold NodeP at h
   obtain⟨_,_,_,h2,_⟩:=h
   exact⟨h2.2.1,h2.2.2.1,h2.2.2.2⟩)
  have hks:=HBD.o.1;have HFN:=Hh (show vU T F (.mk k d e ks) path=if k=kFile then (match T.read ((jV F (told path)).getD 0) with | .ok s=>.ok (.mk k s e ks) | .error c=>.error c) else (match jR T F ks path with | .ok l=>.ok (.mk k d e l) | .error c=>.error c) by rw[vU];rfl);generalize vU T F (.mk k d e ks) path=res at HFN ⊢;have HB1:=Hh hb1;have HX:=Hh hx;have HSZ:=Hh hsz;clear hx hsz hb1 hN hpl hsl hev;go_enter Tryz.func151,Tryz.ntmps151;go_upto_region 1 with fail;clear h;generalize ((w.alloc (.cells #[.string ⟨k.toArray⟩,.string ⟨d.toArray⟩,.bool e,.slice A ks.length cap] 134)).alloc (.cells #[.string e0,.string e1,.bool e2b,.slice e3 e3n e3c,.map (some bf)] 203)).alloc (.cells #[.string ⟨#[]⟩,.string ⟨#[]⟩,.bool false,.slice none 0 0] 134)=w1 at *;have HBX:=Hh HX.o.1;have HEX:=Hh HX.o.2.1;have HOX:=Hh (show w1.heap[w.heap.size+2]?=some (.cells #[.string ⟨#[]⟩,.string ⟨#[]⟩,.bool false,.slice none 0 0] 134 (0,0)) from HX.o.2.2);have HEV1:=Hh (HEV.o.below HB1.o);have q0:w1.cell? ⟨w.heap.size,0,none⟩=some (.string ⟨k.toArray⟩):=zJ1 w1 _ 0 _ _ _ HBX.o;clear hpath;have HNE:=Hh (show b≠w.heap.size by have:=lt_of_cell HEV.o.own;simp at this;omega)
  rcases (show (k=kFile∧(k==[102,105,108,101])=true)∨(k≠kFile∧(k==[102,105,108,101])=false) from by
   by_cases h:k=kFile
   ·exact .inl ⟨h,by subst h;decide⟩
   ·exact .inr ⟨h,by simpa[kFile] using h⟩) with ⟨hk,hk'⟩ | ⟨hk,hk'⟩
  ·rw[zM1 hk] at HFN;have HNUM:=Hh (HEV1.o.num (told path));have HPTL:=Hh (show (told path).length≤2000000 by have:=HPL.o ⟨path,deep,.mk k d e ks⟩ (by rw[Stl.flat];simp);simp only at this;unfold told;split<;>simp<;>omega);have hbd:Below w1.heap.size w1 w1.drew:=⟨rfl,rfl,rfl,zo _,fun _ _=>rfl⟩;have hlk:=(HEV1.o.below hbd).look (told path) HPTL.o;have hmx:=fun ts T w=>qAD (P:=Tryz.prog) ts T path HSL.o w
   have q1:w1.cell? ⟨w.heap.size,1,none⟩=some (.string ⟨d.toArray⟩):=zJ1 w1 _ 1 _ _ _ HBX.o;have q4:w1.cell? ⟨w.heap.size+1,4,none⟩=some (.map (some bf)):=zJ1 w1 _ 4 _ _ _ HEX.o;have c0:=HEV1.o.own;have hrd:=xM (w:=w1.drew) (HEV1.o.tab.below hbd) HEV1.o.ok HEV1.o.disk ((jV F (told path)).getD 0) HNUM.o (HEV1.o.errs.later hbd);obtain⟨s,er,hpair,hse⟩:=qJc T ((jV F (told path)).getD 0) p HEV1.o.ok;rw[hpair] at hrd;have HRD:=Hh hrd;have HSE:=Hh hse;have hbl:=lt_of_cell c0;have hbs:=qA HBX.o;have hes:=qA HEX.o;clear hk hpair hse hrd hbd;go_upto_region 3 with fail
   go_region_held3 (fun w'=>w'.cell? ⟨b,0,none⟩=some (.pointer (some ⟨bt,0,none⟩))∧w'.cell? ⟨w.heap.size+1,4,none⟩=some (.map (some bf)))
    (first
     | exact⟨c0,q4⟩
     | exact hS5
     | exact hS6
     | go_keep)
    (first
     | (go_at_call 186;refine HRD.o.mono ?_;rintro ev w5 ⟨rfl,hb5⟩;obtain⟨hS5,hS6,b1,f1⟩:=qH9 hb5 c0 q4 q1 hbl hes hbs HBX.o HNE.o (.string ⟨s.toArray⟩))
     | fail)
   have hW:Below w1.heap.size w1 w5:=⟨hb5.os,hb5.tape,hb5.output,hb5.size,hb5.block⟩;have HB6:=Hh ((HB1.o.trans (hW.mono HB1.o.size)).setCell (p:=⟨w.heap.size,1,none⟩) (zo _) (.string ⟨s.toArray⟩));have HX6:=Hh (qH ((hW.block _ hbs).trans HBX.o) 1 (.string ⟨s.toArray⟩));have HO6:=Hh ((zA w5 ⟨w.heap.size,1,none⟩ (.string ⟨s.toArray⟩) (w.heap.size+2) (by simp)).trans ((hW.block _ (qA HOX.o)).trans HOX.o));clear hS5 hS6 b1 f1 hb5 hW hlk hmx q0 q1 q4 c0;generalize w5.setCell ⟨w.heap.size,1,none⟩ (.string ⟨s.toArray⟩)=w6 at *;have q0:w6.cell? ⟨w.heap.size,0,none⟩=some (.string ⟨k.toArray⟩):=zJ1 w6 _ 0 _ _ _ HX6.o;have q1:w6.cell? ⟨w.heap.size,1,none⟩=some (.string ⟨s.toArray⟩):=zJ1 w6 _ 1 _ _ _ HX6.o;have q2:w6.cell? ⟨w.heap.size,2,none⟩=some (.bool e):=zJ1 w6 _ 2 _ _ _ HX6.o;have q3:w6.cell? ⟨w.heap.size,3,none⟩=some (.slice A ks.length cap):=zJ1 w6 _ 3 _ _ _ HX6.o;have z0:w6.cell? ⟨w.heap.size+1+1,0,none⟩=some (.string ⟨#[]⟩):=zJ1 w6 _ 0 _ _ _ HO6.o;have z1:w6.cell? ⟨w.heap.size+1+1,1,none⟩=some (.string ⟨#[]⟩):=zJ1 w6 _ 1 _ _ _ HO6.o;have z2:w6.cell? ⟨w.heap.size+1+1,2,none⟩=some (.bool false):=zJ1 w6 _ 2 _ _ _ HO6.o;have z3:w6.cell? ⟨w.heap.size+1+1,3,none⟩=some (.slice none 0 0):=zJ1 w6 _ 3 _ _ _ HO6.o;have f0:w6.frozen? ⟨w.heap.size+1+1,0,none⟩=false:=qC HO6.o 0;have f1:w6.frozen? ⟨w.heap.size+1+1,1,none⟩=false:=qC HO6.o 1;have f2:w6.frozen? ⟨w.heap.size+1+1,2,none⟩=false:=qC HO6.o 2;have f3:w6.frozen? ⟨w.heap.size+1+1,3,none⟩=false:=qC HO6.o 3;go_wp2_with fail;obtain⟨w9,E9,HF,HBF⟩:=nJ HO6.o HB6.o (by omega) (.string ⟨k.toArray⟩) (.string ⟨s.toArray⟩) (.bool e) (.slice A ks.length cap);clear q0 q1 q2 q3 z0 z1 z2 z3 f0 f1 f2 f3;rw[E9.o];have r0:w9.cell? ⟨w.heap.size+1+1,0,none⟩=some (.string ⟨k.toArray⟩):=zJ1 w9 _ 0 _ _ _ HF.o;have r1:w9.cell? ⟨w.heap.size+1+1,1,none⟩=some (.string ⟨s.toArray⟩):=zJ1 w9 _ 1 _ _ _ HF.o;have r2:w9.cell? ⟨w.heap.size+1+1,2,none⟩=some (.bool e):=zJ1 w9 _ 2 _ _ _ HF.o;have r3:w9.cell? ⟨w.heap.size+1+1,3,none⟩=some (.slice A ks.length cap):=zJ1 w9 _ 3 _ _ _ HF.o;refine zH1 (v:=.tuple #[.agg #[.string ⟨k.toArray⟩,.string ⟨s.toArray⟩,.bool e,.slice A ks.length cap],er]) ?_ rfl ⟨HBF.o,?_⟩
   ·simp[results,Tryz.results151,go_sem,r0,r1,r2,r3]
   ·rw[HFN.o];have h1:=HSE.o.2;refine⟨_,_,_,_,_,_,_,rfl,?_⟩
    cases hr:T.read ((jV F (told path)).getD 0) with
    | error cd =>
     rw[hr] at h1;exact⟨h1,qHc hr⟩
    | ok t =>
     rw[hr] at h1;obtain⟨rfl,rfl⟩:=h1;exact⟨rfl,(NodeP.go HBF.o.size (fun b hb hp=>⟨HBF.o.block b hb,.inl hp⟩) _ _ HND.o).redata (by have:=HSE.o.1;omega)⟩
  ·rw[zL1 hk] at HFN;have HCL:=Hh (pI HND.o _ HB1.o);have q3:w1.cell? ⟨w.heap.size,3,none⟩=some (.slice A ks.length cap):=zJ1 w1 _ 3 _ _ _ HBX.o;clear hk;go_upto_region 6 with (go_at_call 202;refine HCL.o.mono ?_;rintro ev w2 ⟨A2,cap2,xs,rfl,hown,hks2,hb2⟩;have hx2:=(hb2.block _ (qA HBX.o)).trans HBX.o;have g3:=zJ1 w2 _ 3 _ _ _ hx2;have f3:=qC hx2 3;have HOWN:=Hh hown;have HKS:=Hh hks2;have HB2:=Hh hb2;have HX2:=Hh hx2;clear hown hb2 hx2 hks2);have hM0:MapSt P (uN T F path) ks w.heap.size w 3 [.cells #[.string ⟨k.toArray⟩,.string ⟨d.toArray⟩,.bool e,.slice A2 ks.length cap2] 134 (0,0),.cells #[.string e0,.string e1,.bool e2b,.slice e3 e3n e3c,.map (some bf)] 203 (0,0),.cells #[.string ⟨#[]⟩,.string ⟨#[]⟩,.bool false,.slice none 0 0] 134 (0,0)] A2 cap2 0 (w2.setCell ⟨w.heap.size,3,none⟩ (.slice A2 ks.length cap2)):=by
    have hno:(Value.slice A2 ks.length cap2).ownBlock≠some w.heap.size:=fun e=>by have:=(HOWN.o.lt _ e).1;have:=HSZ.o;omega
    have hw1:=qA HEX.o;have hw2:=qA HOX.o;have hbel:Below w.heap.size w w2:=HB1.o.trans (HB2.o.mono (by have:=HSZ.o;omega));refine⟨hbel.setCell (p:=⟨w.heap.size,3,none⟩) (zo _) _,rfl,rfl,fix3 (qH HX2.o 3 _) ?_ ?_,xs,?_,?_⟩
    ·rw[zA w2 ⟨w.heap.size,3,none⟩ _ (w.heap.size+1) (by simp)];exact(HB2.o.block _ hw1).trans HEX.o
    ·rw[zA w2 ⟨w.heap.size,3,none⟩ _ (w.heap.size+2) (by simp)];exact(HB2.o.block _ hw2).trans HOX.o
    ·rw[← HSZ.o];exact zO1 HOWN.o (a:=⟨w.heap.size,3,none⟩) hno _
    ·rw[List.take_zero,List.map_nil,zh,List.drop_zero];refine KidsCells.go (w:=w) (by simp[World.setCell];exact hbel.size) (fun b hb hp=>⟨?_,.inl ⟨hp,hb⟩⟩) _ _ HKS.o;rw[zA w2 ⟨w.heap.size,3,none⟩ _ b (by simp;omega)];exact hbel.block b hb
   have HM0:=Hh hM0;clear hM0 q3 q0 g3 f3;generalize w2.setCell ⟨w.heap.size,3,none⟩ (.slice A2 ks.length cap2)=w3 at *;have q3:w3.cell? ⟨w.heap.size,3,none⟩=some (.slice A2 ks.length cap2):=zJ1 w3 _ 3 _ _ _ (HM0.o.fix 0 _ rfl);go_upto_region 7 with fail
   go_loopw [39] (fun a wr=>∃ (j:Nat),j≤ks.length∧a=.int .i64 j∧Hg (MapSt P (uN T F path) ks w.heap.size w 3 [.cells #[.string ⟨k.toArray⟩,.string ⟨d.toArray⟩,.bool e,.slice A2 ks.length cap2] 134 (0,0),.cells #[.string e0,.string e1,.bool e2b,.slice e3 e3n e3c,.map (some bf)] 203 (0,0),.cells #[.string ⟨#[]⟩,.string ⟨#[]⟩,.bool false,.slice none 0 0] 134 (0,0)] A2 cap2 j wr)∧Hg (∀ q∈ks.take j,∃ y,vU T F q.2 (path++47::q.1)=.ok y)) (fun a _=>ks.length-(intOf a).toNat)
   case atStart=>exact⟨0,zw _,rfl,HM0,Hh (by simp)⟩
   case round =>
    obtain⟨j,hj,rfl,HMJ,HOKS⟩:=hrel;clear q3;by_cases hjl:j<ks.length
    ·have i4:(j:Int)<(ks.length:Int):=by omega
     have i5:(0:Int)≤(j:Int):=by omega
     obtain⟨g,a,b',v0,v1,v2,v3,rfl,hg,hal,hr,hnl,hn,-,-,k0,k1,k2,k3,k4⟩:=HMJ.o.kid hjl;have HW:=Hh (zq (Stl.wt_mem ks j hjl) HM.o);have HJL:=Hh hjl;have HR:=Hh hr;have HPK:=Hh (fun y hy=>HPL.o y (qMA (k:=k) (d:=d) (e:=e) (path:=path) (deep:=deep) hjl y hy));have HMK:=Hh (fun q (hq:q∈ks.take (j+1))=>(show q∈ks.take j∨q=ks[j] by rw[zn hjl] at hq;exact(zX.1 hq).imp_right zg.1));have HERR:=Hh (fun cd=>qCb T F path (cd:=cd) ks j hjl HOKS.o);have HFO:=Hh (show ∀ y,vU T F ks[j].2 (path++47::ks[j].1)=.ok y→uN T F path ks[j]=y from fun y hy=>by unfold uN;rw[hy]);have HSTEP:=Hh (fun w2 hb u0 u1 u2 u3=>@MapSt.step _ _ ks w.heap.size w wr w2 3 _ g cap2 j HMJ.o hjl hb u0 u1 u2 u3);generalize ks[j]=kd at *;obtain⟨nm,x⟩:=kd;simp only at hnl hn HPK HW HMK HERR HFO HSTEP k0;have hml:=HPK.o ⟨path++47::nm,deep+1,x⟩ (qK2 _ _ _);simp only[zP,zQ] at hml;obtain⟨kx,dx,ex,ksx⟩:=x;obtain⟨A',c',e'⟩:=hn.open;simp only[zD,and_true] at e';obtain⟨rfl,rfl,rfl,rfl⟩:=e';have HN:=Hh hn;have s1:¬ 9223372036854775807<path.length+1:=by omega
     have s2:¬ 9223372036854775807<path.length+1+nm.length:=by omega
     have s3:ByteArray.mk path.toArray++ByteArray.mk #[47]=ByteArray.mk (path++[47]).toArray:=ByteArray.mk_append_mk path [47];have s4:ByteArray.mk (path++[47]).toArray++ByteArray.mk nm.toArray=ByteArray.mk (path++[47]++nm).toArray:=ByteArray.mk_append_mk (path++[47]) nm;rw[show 5*j=j*5 by omega] at k0 k1 k2 k3 k4;clear hr hn;go_upto_region 9 with fail;have hb4:Below wr.heap.size wr (wr.alloc (.cells #[.string ⟨nm.toArray⟩,.string ⟨kx.toArray⟩,.string ⟨dx.toArray⟩,.bool ex,.slice A' ksx.length c'] 224)):=(zB _ wr).alloc (zo _) _;have HKX:=Hh (zK1 wr (.cells #[.string ⟨nm.toArray⟩,.string ⟨kx.toArray⟩,.string ⟨dx.toArray⟩,.bool ex,.slice A' ksx.length c'] 224));have HKC:=Hh (And.intro k1 (And.intro k2 (And.intro k3 k4)));clear k0 k1 k2 k3 k4;generalize wr.alloc (.cells #[.string ⟨nm.toArray⟩,.string ⟨kx.toArray⟩,.string ⟨dx.toArray⟩,.bool ex,.slice A' ksx.length c'] 224)=w4 at *;have hbx:=qA (HMJ.o.fix 0 _ rfl);have hex:=qA (HMJ.o.fix 1 _ rfl);have hgl:=(HR.o.lt g rfl).2;have hk4:=qA HKX.o;have HB4':=Hh hb4;have HS:=Hh (fun (W:World) (hW:Below w4.heap.size w4 W)=>show (((fun w'=>w'.cell? ⟨w.heap.size,3,none⟩=some (.slice (some ⟨g,0,none⟩) ks.length cap2)∧w'.cell? ⟨wr.heap.size,0,none⟩=some (.string ⟨nm.toArray⟩)∧w'.cell? ⟨wr.heap.size,1,none⟩=some (.string ⟨kx.toArray⟩)∧w'.cell? ⟨wr.heap.size,2,none⟩=some (.string ⟨dx.toArray⟩)∧w'.cell? ⟨wr.heap.size,3,none⟩=some (.bool ex)∧w'.cell? ⟨wr.heap.size,4,none⟩=some (.slice A' ksx.length c')∧w'.cell? ⟨w.heap.size+1,0,none⟩=some (.string e0)∧w'.cell? ⟨w.heap.size+1,1,none⟩=some (.string e1)∧w'.cell? ⟨w.heap.size+1,2,none⟩=some (.bool e2b)∧w'.cell? ⟨w.heap.size+1,3,none⟩=some (.slice e3 e3n e3c)∧w'.cell? ⟨w.heap.size+1,4,none⟩=some (.map (some bf)))) W) from
      ⟨zJ1 W _ 3 _ _ _ ((hW.block _ (zt hbx hb4.size)).trans ((hb4.block _ hbx).trans (HMJ.o.fix 0 _ rfl))),
       zJ1 W _ 0 _ _ _ ((hW.block _ hk4).trans HKX.o),zJ1 W _ 1 _ _ _ ((hW.block _ hk4).trans HKX.o),zJ1 W _ 2 _ _ _ ((hW.block _ hk4).trans HKX.o),zJ1 W _ 3 _ _ _ ((hW.block _ hk4).trans HKX.o),zJ1 W _ 4 _ _ _ ((hW.block _ hk4).trans HKX.o),
       zJ1 W _ 0 _ _ _ ((hW.block _ (zt hex hb4.size)).trans ((hb4.block _ hex).trans (HMJ.o.fix 1 _ rfl))),zJ1 W _ 1 _ _ _ ((hW.block _ (zt hex hb4.size)).trans ((hb4.block _ hex).trans (HMJ.o.fix 1 _ rfl))),zJ1 W _ 2 _ _ _ ((hW.block _ (zt hex hb4.size)).trans ((hb4.block _ hex).trans (HMJ.o.fix 1 _ rfl))),zJ1 W _ 3 _ _ _ ((hW.block _ (zt hex hb4.size)).trans ((hb4.block _ hex).trans (HMJ.o.fix 1 _ rfl))),zJ1 W _ 4 _ _ _ ((hW.block _ (zt hex hb4.size)).trans ((hb4.block _ hex).trans (HMJ.o.fix 1 _ rfl)))⟩)
     have hbd:Below w4.heap.size w4 w4.drew:=⟨rfl,rfl,rfl,zo _,fun _ _=>rfl⟩;have hS4:=HS.o _ hbd;have HF:=Hh (fun (W:World) (hW':Below w4.drew.heap.size w4.drew W)=>show Below wr.heap.size wr W∧((fun w'=>w'.cell? ⟨w.heap.size,3,none⟩=some (.slice (some ⟨g,0,none⟩) ks.length cap2)∧w'.cell? ⟨wr.heap.size,0,none⟩=some (.string ⟨nm.toArray⟩)∧w'.cell? ⟨wr.heap.size,1,none⟩=some (.string ⟨kx.toArray⟩)∧w'.cell? ⟨wr.heap.size,2,none⟩=some (.string ⟨dx.toArray⟩)∧w'.cell? ⟨wr.heap.size,3,none⟩=some (.bool ex)∧w'.cell? ⟨wr.heap.size,4,none⟩=some (.slice A' ksx.length c')∧w'.cell? ⟨w.heap.size+1,0,none⟩=some (.string e0)∧w'.cell? ⟨w.heap.size+1,1,none⟩=some (.string e1)∧w'.cell? ⟨w.heap.size+1,2,none⟩=some (.bool e2b)∧w'.cell? ⟨w.heap.size+1,3,none⟩=some (.slice e3 e3n e3c)∧w'.cell? ⟨w.heap.size+1,4,none⟩=some (.map (some bf)))) W∧W.cell? ⟨g,j*5+1,none⟩=some (.string ⟨kx.toArray⟩)∧W.cell? ⟨g,j*5+1+1,none⟩=some (.string ⟨dx.toArray⟩)∧W.cell? ⟨g,j*5+1+2,none⟩=some (.bool ex)∧W.cell? ⟨g,j*5+1+3,none⟩=some (.slice A' ksx.length c')∧W.frozen? ⟨g,j*5+1,none⟩=false∧W.frozen? ⟨g,j*5+1+1,none⟩=false∧W.frozen? ⟨g,j*5+1+2,none⟩=false∧W.frozen? ⟨g,j*5+1+3,none⟩=false from by
      have hW:Below w4.heap.size w4 W:=⟨hW'.os,hW'.tape,hW'.output,hW'.size,hW'.block⟩
      have hWr:=HB4'.o.trans (hW.mono HB4'.o.size)
      have cs:∀ i v,wr.cell? ⟨g,i,none⟩=some v→W.cell? ⟨g,i,none⟩=some v:=fun i v hv=>(hWr.cell (p:=⟨g,i,none⟩) hgl).trans hv
      have fs:∀ i,W.frozen? ⟨g,i,none⟩=false:=fun i=>(zE1 (hWr.block g hgl)).trans (HR.o.frozenAt _)
      exact⟨hWr,HS.o W hW,cs _ _ HKC.o.1,cs _ _ HKC.o.2.1,cs _ _ HKC.o.2.2.1,cs _ _ HKC.o.2.2.2,fs _,fs _,fs _,fs _⟩)
     have hih:=IH.o (.mk kx dx ex ksx) _ _ (path++47::nm) (deep+1) w4.drew HW.o (NodeP.go (w:=wr) (w':=w4.drew) (zq hb4.size (zo _)) (fun b hb hp=>⟨hb4.block b hb,hp⟩) _ _ HN.o) HPK.o (.inr (by rcases HSL.o with rfl | ⟨r,rfl⟩<;>exact⟨_,rfl⟩)) (HEV.o.below (((HMJ.o.below).trans (hb4.mono (Nat.le_of_lt hbx))).trans (hbd.mono (by have:=HMJ.o.below.size;have:=hb4.size;omega))));have HIH:=Hh hih;have hgne:g≠w.heap.size∧g≠wr.heap.size∧g≠w.heap.size+1:=⟨by omega,by omega,by omega⟩;obtain⟨q3,kk0,kk1,kk2,kk3,kk4,x0,x1,x2,x3,x4⟩:=hS4;clear hih hbd hb4
     go_region_held3 (fun w'=>w'.cell? ⟨w.heap.size,3,none⟩=some (.slice (some ⟨g,0,none⟩) ks.length cap2)∧w'.cell? ⟨wr.heap.size,0,none⟩=some (.string ⟨nm.toArray⟩)∧w'.cell? ⟨wr.heap.size,1,none⟩=some (.string ⟨kx.toArray⟩)∧w'.cell? ⟨wr.heap.size,2,none⟩=some (.string ⟨dx.toArray⟩)∧w'.cell? ⟨wr.heap.size,3,none⟩=some (.bool ex)∧w'.cell? ⟨wr.heap.size,4,none⟩=some (.slice A' ksx.length c')∧w'.cell? ⟨w.heap.size+1,0,none⟩=some (.string e0)∧w'.cell? ⟨w.heap.size+1,1,none⟩=some (.string e1)∧w'.cell? ⟨w.heap.size+1,2,none⟩=some (.bool e2b)∧w'.cell? ⟨w.heap.size+1,3,none⟩=some (.slice e3 e3n e3c)∧w'.cell? ⟨w.heap.size+1,4,none⟩=some (.map (some bf)))
      (first
       | exact⟨q3,kk0,kk1,kk2,kk3,kk4,x0,x1,x2,x3,x4⟩
       | exact hS5
       | exact qGB hS5 hgne
       | go_keep)
      (first
       | (go_at_call 151;go_loud (with_reducible refine HIH.o.mono ?_);rintro ev w5 ⟨hb5,a0,a1,a2,A5,m5,cp5,er,rfl,hpost⟩;have HPO:=Hh hpost;clear hpost;obtain⟨hWr,hS5,t1,t2,t3,t4,f1,f2,f3,f4⟩:=HF.o w5 hb5)
       | fail)
     have hout:=qA (HMJ.o.fix 2 _ rfl);have HO9:=Hh (show ((((w5.setCell ⟨g,j*5+1,none⟩ (.string a0)).setCell ⟨g,j*5+1+1,none⟩ (.string a1)).setCell ⟨g,j*5+1+2,none⟩ (.bool a2)).setCell ⟨g,j*5+1+3,none⟩ (.slice A5 m5 cp5)).heap[w.heap.size+1+1]?=some (.cells #[.string ⟨#[]⟩,.string ⟨#[]⟩,.bool false,.slice none 0 0] 134 (0,0)) by
      have hgo:w.heap.size+1+1≠g:=by omega
      rw[zA _ ⟨g,j*5+1+3,none⟩ _ _ hgo,zA _ ⟨g,j*5+1+2,none⟩ _ _ hgo,zA _ ⟨g,j*5+1+1,none⟩ _ _ hgo,zA _ ⟨g,j*5+1,none⟩ _ _ hgo]
      exact(hWr.block _ hout).trans (HMJ.o.fix 2 _ rfl))
     have HB9:=Hh (show Below w.heap.size w ((((w5.setCell ⟨g,j*5+1,none⟩ (.string a0)).setCell ⟨g,j*5+1+1,none⟩ (.string a1)).setCell ⟨g,j*5+1+2,none⟩ (.bool a2)).setCell ⟨g,j*5+1+3,none⟩ (.slice A5 m5 cp5)) from by
      have hgb:w.heap.size≤g:=by omega
      have kk:∀ {W:World},Below w.heap.size w W→∀ (i:Nat) (u:Value),Below w.heap.size w (W.setCell ⟨g,i,none⟩ u):=fun hW i u=>hW.setCell (p:=⟨g,i,none⟩) hgb u
      exact kk (kk (kk (kk (HMJ.o.below.trans (hWr.mono HMJ.o.below.size)) _ _) _ _) _ _) _ _)
     have HST:=Hh (HSTEP.o w5 hWr (.string a0) (.string a1) (.bool a2) (.slice A5 m5 cp5));rw[show 5*j+1=j*5+1 by omega,show 5*j+2=j*5+1+1 by omega,show 5*j+3=j*5+1+2 by omega,show 5*j+4=j*5+1+3 by omega] at HST;have HGN:=Hh (show ∀ b,((P b∧b<w.heap.size)∨w.heap.size+3≤b∧b≠g)∨w4.heap.size≤b→((P b∧b<w.heap.size)∨w.heap.size+3≤b∧b≠g)∨wr.heap.size≤b from fun b hb=>hb.imp id (fun h=>zq HB4'.o.size h));clear hS5 t1 t2 t3 t4 f1 f2 f3 f4 hWr hb5 HF HS HIH q3 kk0 kk1 kk2 kk3 kk4 x0 x1 x2 x3 x4 s1 s2 s3 s4;generalize (((w5.setCell ⟨g,j*5+1,none⟩ (.string a0)).setCell ⟨g,j*5+1+1,none⟩ (.string a1)).setCell ⟨g,j*5+1+2,none⟩ (.bool a2)).setCell ⟨g,j*5+1+3,none⟩ (.slice A5 m5 cp5)=w9 at *
     cases hfr:vU T F (.mk kx dx ex ksx) (path++47::nm) with
     | ok y =>
      rw[hfr] at HPO;obtain⟨rfl,hy⟩:=HPO.o;have HMN:=Hh (HST.o (by rw[HFO.o y hfr];exact NodeP.go (zo _) (fun b _ hb=>⟨rfl,HGN.o b hb⟩) _ _ hy));have HOK2:=Hh (show ∀ q∈ks.take (j+1),∃ y,vU T F q.2 (path++47::q.1)=.ok y from fun q hq=>by
       rcases HMK.o q hq with h | rfl
       ·exact HOKS.o q h
       ·exact⟨y,hfr⟩)
      clear hy hfr;go_wp2;go_roundw
      case rel=>exact⟨j+1,hjl,by go_num,HMN,HOK2⟩
      case measure=>simp[intOf];omega
     | error cd =>
      rw[hfr] at HPO;obtain⟨rfl,hcd⟩:=HPO.o;have HR2:=Hh (show res=.error cd by rw[HFN.o,HERR.o cd hfr]);rw[qD p hcd];have HEO:=Hh (qD p hcd);have HCD:=Hh hcd;have z0:w9.cell? ⟨w.heap.size+1+1,0,none⟩=some (.string ⟨#[]⟩):=zJ1 w9 _ 0 _ _ _ HO9.o;have z1:w9.cell? ⟨w.heap.size+1+1,1,none⟩=some (.string ⟨#[]⟩):=zJ1 w9 _ 1 _ _ _ HO9.o;have z2:w9.cell? ⟨w.heap.size+1+1,2,none⟩=some (.bool false):=zJ1 w9 _ 2 _ _ _ HO9.o;have z3:w9.cell? ⟨w.heap.size+1+1,3,none⟩=some (.slice none 0 0):=zJ1 w9 _ 3 _ _ _ HO9.o;have f0:w9.frozen? ⟨w.heap.size+1+1,0,none⟩=false:=qC HO9.o 0;have f1:w9.frozen? ⟨w.heap.size+1+1,1,none⟩=false:=qC HO9.o 1;have f2:w9.frozen? ⟨w.heap.size+1+1,2,none⟩=false:=qC HO9.o 2;have f3:w9.frozen? ⟨w.heap.size+1+1,3,none⟩=false:=qC HO9.o 3;clear hfr hcd HPO;go_wp2_with fail;obtain⟨wz,E9,HF,HBF⟩:=nJ HO9.o HB9.o (by omega) (.string ⟨#[]⟩) (.string ⟨#[]⟩) (.bool false) (.slice none 0 0);clear z0 z1 z2 z3 f0 f1 f2 f3;rw[E9.o];have r0:wz.cell? ⟨w.heap.size+1+1,0,none⟩=some (.string ⟨#[]⟩):=zJ1 wz _ 0 _ _ _ HF.o;have r1:wz.cell? ⟨w.heap.size+1+1,1,none⟩=some (.string ⟨#[]⟩):=zJ1 wz _ 1 _ _ _ HF.o;have r2:wz.cell? ⟨w.heap.size+1+1,2,none⟩=some (.bool false):=zJ1 wz _ 2 _ _ _ HF.o;have r3:wz.cell? ⟨w.heap.size+1+1,3,none⟩=some (.slice none 0 0):=zJ1 wz _ 3 _ _ _ HF.o;refine zH1 (v:=.tuple #[.agg #[(.string ⟨#[]⟩),(.string ⟨#[]⟩),(.bool false),(.slice none 0 0)],(.iface 376 (.pointer (some (p cd))))]) ?_ rfl ⟨HBF.o,?_⟩
      ·simp[results,Tryz.results151,go_sem,r0,r1,r2,r3]
      ·rw[HR2.o];exact⟨_,_,_,_,_,_,_,rfl,HEO.o.symm,HCD.o⟩
    ·have i4:¬ (j:Int)<(ks.length:Int):=by omega
     have hje:j=ks.length:=by omega
     subst hje;have HR2:=Hh (show res=.ok (.mk k d e (ks.map fun q=>(q.1,uN T F path q))) by rw[HFN.o,qCZ T F path ks (fun q hq=>HOKS.o q (by simpa using hq))]);have HO9:=Hh (show wr.heap[w.heap.size+1+1]?=some (.cells #[.string ⟨#[]⟩,.string ⟨#[]⟩,.bool false,.slice none 0 0] 134 (0,0)) from HMJ.o.fix 2 _ rfl);have HB9:=Hh HMJ.o.below;have q0:wr.cell? ⟨w.heap.size,0,none⟩=some (.string ⟨k.toArray⟩):=zJ1 wr _ 0 _ _ _ (HMJ.o.fix 0 _ rfl);have q1:wr.cell? ⟨w.heap.size,1,none⟩=some (.string ⟨d.toArray⟩):=zJ1 wr _ 1 _ _ _ (HMJ.o.fix 0 _ rfl);have q2:wr.cell? ⟨w.heap.size,2,none⟩=some (.bool e):=zJ1 wr _ 2 _ _ _ (HMJ.o.fix 0 _ rfl);have q3:wr.cell? ⟨w.heap.size,3,none⟩=some (.slice A2 ks.length cap2):=zJ1 wr _ 3 _ _ _ (HMJ.o.fix 0 _ rfl);have z0:wr.cell? ⟨w.heap.size+1+1,0,none⟩=some (.string ⟨#[]⟩):=zJ1 wr _ 0 _ _ _ HO9.o;have z1:wr.cell? ⟨w.heap.size+1+1,1,none⟩=some (.string ⟨#[]⟩):=zJ1 wr _ 1 _ _ _ HO9.o;have z2:wr.cell? ⟨w.heap.size+1+1,2,none⟩=some (.bool false):=zJ1 wr _ 2 _ _ _ HO9.o;have z3:wr.cell? ⟨w.heap.size+1+1,3,none⟩=some (.slice none 0 0):=zJ1 wr _ 3 _ _ _ HO9.o;have f0:wr.frozen? ⟨w.heap.size+1+1,0,none⟩=false:=qC HO9.o 0;have f1:wr.frozen? ⟨w.heap.size+1+1,1,none⟩=false:=qC HO9.o 1;have f2:wr.frozen? ⟨w.heap.size+1+1,2,none⟩=false:=qC HO9.o 2;have f3:wr.frozen? ⟨w.heap.size+1+1,3,none⟩=false:=qC HO9.o 3;go_wp2_with fail;obtain⟨wz,E9,HF,HBF⟩:=nJ HO9.o HB9.o (by omega) (.string ⟨k.toArray⟩) (.string ⟨d.toArray⟩) (.bool e) (.slice A2 ks.length cap2);have HT:=Hh (HMJ.o.told (e:=e) HBD.o.2.1 HBD.o.2.2 HBD.o.1 (x:=w.heap.size+1+1) (by omega) (by omega) (.string ⟨k.toArray⟩) (.string ⟨d.toArray⟩) (.bool e) (.slice A2 ks.length cap2));clear z0 z1 z2 z3 f0 f1 f2 f3 q0 q1 q2 q3;rw[E9.o];rw[E9.o] at HT;have r0:wz.cell? ⟨w.heap.size+1+1,0,none⟩=some (.string ⟨k.toArray⟩):=zJ1 wz _ 0 _ _ _ HF.o;have r1:wz.cell? ⟨w.heap.size+1+1,1,none⟩=some (.string ⟨d.toArray⟩):=zJ1 wz _ 1 _ _ _ HF.o;have r2:wz.cell? ⟨w.heap.size+1+1,2,none⟩=some (.bool e):=zJ1 wz _ 2 _ _ _ HF.o;have r3:wz.cell? ⟨w.heap.size+1+1,3,none⟩=some (.slice A2 ks.length cap2):=zJ1 wz _ 3 _ _ _ HF.o;refine zH1 (v:=.tuple #[.agg #[(.string ⟨k.toArray⟩),(.string ⟨d.toArray⟩),(.bool e),(.slice A2 ks.length cap2)],.nilIface]) ?_ rfl ⟨HBF.o,?_⟩
     ·simp[results,Tryz.results151,go_sem,r0,r1,r2,r3]
     ·rw[HR2.o];exact⟨_,_,_,_,_,_,_,rfl,rfl,HT.o.1⟩
end Go.Proofs.YtbmkaekimccdgaaGreatDoor
