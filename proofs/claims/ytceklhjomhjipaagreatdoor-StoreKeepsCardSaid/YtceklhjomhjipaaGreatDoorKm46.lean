/- Texts of this claim, merged: TapeCut, TapeOn, RecMore, RecOne. -/
import Derived.Test.YtceklhjomhjipaaGreatDoorKm45
set_option maxHeartbeats 16000000
set_option maxRecDepth 1000000
set_option linter.all false
namespace Go.Proofs.YtceklhjomhjipaaGreatDoor
open Go.RowKit Go.Sort Stl
def qC6 (t:Stl.Tape) (s:List UInt8):Nat×Stl.Tape :=
 if t.off then (13,t) else match t.cut with
  | none=>(0,{ t with b:=t.b++s })
  | some n=>if n<s.length then (13,{ t with b:=t.b++s.take n,off:=true }) else (0,{ t with b:=t.b++s,cut:=some (n-s.length) })
theorem qHX (t:Stl.Tape) (s:List UInt8):t.append s=if 20000<s.length then (2,t) else if 1048576<t.b.length+(record s).length then (8,t) else qC6 t (record s):=by
 unfold Tape.append qC6
 rfl
section
variable {w w2:World} {c c2:Nat→Col} {S:Col→Bool} {b:Nat} {t:Stl.Tape} {A:Option Addr} {cap:Nat} {p:Nat→Addr}
theorem TapeIn.setOff (h:TapeIn w c b t A cap) (o:Bool):TapeIn (w.setCell ⟨b,1,none⟩ (.bool o)) c b { t with off:=o } A cap∧Ext w (w.setCell ⟨b,1,none⟩ (.bool o)) c c qAY:=by
 have hb:=qAd h.own 1 (.bool o)
 refine ⟨⟨by simpa [qJr] using hb,h.col,h.bytes.go (by simp [World.setCell]) fun k hk hO=>⟨zA _ ⟨b,1,none⟩ _ k (fun e=>by subst e;rw [h.col] at hO;cases hO),hO⟩⟩,(Ext.refl w c qAY).setCell (fun _=>by show qAY (c b)=true;rw [h.col];rfl) _⟩
theorem TapeIn.setCut (h:TapeIn w c b t A cap) (q:Option Nat):TapeIn (w.setCell ⟨b,2,none⟩ (.int .i64 (qJr { t with cut:=q }))) c b { t with cut:=q } A cap∧Ext w (w.setCell ⟨b,2,none⟩ (.int .i64 (qJr { t with cut:=q }))) c c qAY:=by
 have hb:=qAd h.own 2 (.int .i64 (qJr { t with cut:=q }))
 refine ⟨⟨by simpa [qJr] using hb,h.col,h.bytes.go (by simp [World.setCell]) fun k hk hO=>⟨zA _ ⟨b,2,none⟩ _ k (fun e=>by subst e;rw [h.col] at hO;cases hO),hO⟩⟩,(Ext.refl w c qAY).setCell (fun _=>by show qAY (c b)=true;rw [h.col];rfl) _⟩
theorem TapeIn.app (h:TapeIn w c b t A cap) (s:List UInt8) (hs:t.b.length+s.length≤4000000) :
  ∃ A' cap' w1,(Builtin.append_ #[52,9] 52 #[.slice A t.b.length cap,.string ⟨s.toArray⟩]).run Tryz.prog w=.ok (.slice A' (t.b.length+s.length) cap') w1 ∧
   w1.heap[b]?=some (.cells #[.slice A t.b.length cap,.bool t.off,.int .i64 (qJr t)] 54 (0,0)) ∧
   ∃ c2,Ext w (w1.setCell ⟨b,0,none⟩ (.slice A' (t.b.length+s.length) cap')) c c2 qAY∧TapeIn (w1.setCell ⟨b,0,none⟩ (.slice A' (t.b.length+s.length) cap')) c2 b { t with b:=t.b++s } A' cap':=by
 have hblt:=qAa h.own
 obtain ⟨i,hi,hz0,hz1,hz2⟩:=(show qBZ 5 (.int .u8 0) 1 1 from qBW (by kernel_rfl) rfl (by decide)).info
 have hsrc:=Src.ofString w (P:=Tryz.prog) Tryz.underlying9 ⟨s.toArray⟩
 obtain ⟨A',cap',w1,happ,hq,hk⟩:=h.bytes.app (ty:=52) Tryz.underlying52 hi hz0 hz1 hz2 rfl (.string ⟨s.toArray⟩) s.length (qMe s) hsrc (by unfold maxLen;omega) (by omega)
 have hne:c b≠.tapeL:=by rw [h.col];decide
 have hb1:w1.heap[b]?=some (.cells #[.slice A t.b.length cap,.bool t.off,.int .i64 (qJr t)] 54 (0,0)):=(hk.block b (qAa h.own) hne).trans h.own
 have hsz:=hk.size
 have hs0:=qAd hb1 0 (.slice A' (t.b.length+s.length) cap')
 have he1:Ext w w1 c (fun k=>if k<w.heap.size then c k else .tapeL) qAY:=⟨hk.os,hk.tape,hk.output,hsz,fun k hkk hS=>⟨hk.block k hkk (fun e=>by rw [e] at hS;cases hS),zM1 hkk⟩⟩
 have hl:(t.b++s).length=t.b.length+s.length:=zP
 refine ⟨A',cap',w1,happ,hb1,fun k=>if k<w.heap.size then c k else .tapeL,?_,?_,?_,?_⟩
 ·exact he1.setCell (fun _=>by simp only;rw [h.col];rfl) _
 ·simp only [hl]
  simpa [qJr] using hs0
 ·show (if b<w.heap.size then c b else Col.tapeL)=_
  rw [zM1 hblt]
  exact h.col
 ·simp only [hl]
  rw [qF6]
  refine (hq.go (O':=fun k=>(c k=.tapeL∧k<w.heap.size)∨w.heap.size≤k) (zq _) fun k hk1 hO=>⟨rfl,?_⟩).go (w':=w1.setCell ⟨b,0,none⟩ (.slice A' (t.b.length+s.length) cap')) (by simp [World.setCell]) fun k hk1 hO=>?_
  ·rcases hO with hO | hO
   ·by_cases hkl:k<w.heap.size
    ·exact .inl ⟨hO,hkl⟩
    ·exact .inr (by omega)
   ·exact .inr hO
  ·have hkb:k≠b:=by
    rcases hO with ⟨hO,_⟩ | hO
    ·intro e;subst e;rw [h.col] at hO;cases hO
    ·omega
   refine ⟨zA _ ⟨b,0,none⟩ _ k hkb,?_⟩
   show (if k<w.heap.size then c k else Col.tapeL)=_
   rcases hO with ⟨hO,h2⟩ | hO
   ·rw [zM1 h2];exact hO
   ·rw [zL1 (by omega)]
theorem qGs {P:Program} {W:World} {ops:Array Oper} {o:Oper} {a:Act} {K:Act→World→Prop} {Q:Exit→Act→World→Prop} {E:Prop} (hgd:o.guard=none) (s x:Operand) (t tx:TypeId)
  (ho:o.op=.call { callee:=.builtin .append,args:=#[s,x],argTypes:=#[t,tx] }) {v y v':Value} {W':World} (hs:a.eval s=v) (hx:a.eval x=y)
  (hr:(Builtin.append_ #[t,tx] o.type #[v,y]).run P W=.ok v' W') (h:K (a.put o.dst v') W'):if Region.wanted o (yielded ops a.tmps)=true then Oper.wp P o a W K Q else E:=by
 have hw:Region.wanted o (yielded ops a.tmps)=true:=by simp [Region.wanted,hgd]
 rw [zM1 hw]
 unfold Oper.wp execOp
 simp only [ho,resolve,invoke,builtin,Sem.run_bind,Sem.run_pure,Result.andThen_ok,List.map_toArray,zV,List.map_nil,hs,hx,hr]
 exact h
theorem TapeIn.cutEnd {W:World} (h:TapeIn w c b t A cap) (hd:Ext w W c c S0) (hof:t.off=false) (s:List UInt8) (m:Nat) (hm:s.length=m) (hs:t.b.length+m≤4000000) :
  ∃ A' cap' w1,(Builtin.append_ #[52,9] 52 #[.slice A t.b.length cap,.string ⟨s.toArray⟩]).run Tryz.prog W=.ok (.slice A' (t.b.length+m) cap') w1 ∧
   w1.cell? ⟨b,0,none⟩=some (.slice A t.b.length cap)∧w1.frozen? ⟨b,0,none⟩=false ∧
   (w1.setCell ⟨b,0,none⟩ (.slice A' (t.b.length+m) cap')).cell? ⟨b,1,none⟩=some (.bool false)∧(w1.setCell ⟨b,0,none⟩ (.slice A' (t.b.length+m) cap')).frozen? ⟨b,1,none⟩=false ∧
   ∃ c2,Ext w ((w1.setCell ⟨b,0,none⟩ (.slice A' (t.b.length+m) cap')).setCell ⟨b,1,none⟩ (.bool true)) c c2 qAY∧TapeIn ((w1.setCell ⟨b,0,none⟩ (.slice A' (t.b.length+m) cap')).setCell ⟨b,1,none⟩ (.bool true)) c2 b { t with b:=t.b++s,off:=true } A' cap':=by
 subst hm
 have hD:=h.ext hd rfl rfl
 obtain ⟨A',cap',w1,happ,hb1,c2,he,ht⟩:=hD.app s hs
 obtain ⟨h1,h2⟩:=ht.setOff true
 have d1:=ce1 ht.own
 simp only at d1
 rw [hof] at d1
 exact ⟨A',cap',w1,happ,zJ1 _ b 0 _ _ _ hb1,qAb hb1 0,d1,qAb ht.own 1,c2,(hd.mono (fun _ _=>rfl)).trans (he.trans h2),h1⟩
theorem TapeIn.countEnd (h:TapeIn w c b t A cap) (q:Option Nat) (s:List UInt8) (hs:t.b.length+s.length≤4000000) :
  ∃ A' cap' w1,(Builtin.append_ #[52,9] 52 #[.slice A t.b.length cap,.string ⟨s.toArray⟩]).run Tryz.prog (w.setCell ⟨b,2,none⟩ (.int .i64 (qJr { t with cut:=q })))=.ok (.slice A' (t.b.length+s.length) cap') w1 ∧
   w1.cell? ⟨b,0,none⟩=some (.slice A t.b.length cap)∧w1.frozen? ⟨b,0,none⟩=false ∧
   ∃ c2,Ext w (w1.setCell ⟨b,0,none⟩ (.slice A' (t.b.length+s.length) cap')) c c2 qAY∧TapeIn (w1.setCell ⟨b,0,none⟩ (.slice A' (t.b.length+s.length) cap')) c2 b { t with b:=t.b++s,cut:=q } A' cap':=by
 obtain ⟨h1,h2⟩:=h.setCut q
 obtain ⟨A',cap',w1,happ,hb1,c2,he,ht⟩:=h1.app s hs
 exact ⟨A',cap',w1,happ,zJ1 _ b 0 _ _ _ hb1,qAb hb1 0,c2,h2.trans he,ht⟩
theorem qNl (h:TapeAt w c b t) (hE:Env w c p) (s:List UInt8) (hs:t.b.length+s.length≤4000000) (hcut:∀ n,t.cut=some n→n≤9223372036854775807) :
  Calls Tryz.prog 48 #[.pointer (some ⟨b,0,none⟩),.string ⟨s.toArray⟩] w (qKw p w c b (qC6 t s)):=by
 have H0:=Hh h
 have HE:=Hh hE
 have hgo:∀ (W:World) (C:Nat→Col),Env W C p→W.cell? ⟨1,0,none⟩=some (.iface 377 (.pointer (some (p 13)))):=fun W C h=>by
  have h1:=h.errs.cell 13 (by decide) (by decide)
  rwa [qAc p (by decide)] at h1
 have HGO:=Hh hgo
 cases hof:t.off with
 | true =>
  have HX:=Hh (show qC6 t s=(13,t) from by unfold qC6;rw [zM1 hof])
  generalize qC6 t s=r at HX ⊢
  obtain ⟨A,cap,h⟩:=h
  have c1:=ce1 h.own
  rw [hof] at c1
  have g0:=hgo w c hE
  clear h hE hgo
  go_enter Tryz.func48,Tryz.ntmps48
  go_wp2
  go_ret
  rw [HX.out]
  exact ⟨rfl,c,Ext.refl _ _ _,H0.out⟩
 | false =>
  cases hcu:t.cut with
  | none =>
   have HX:=Hh (show qC6 t s=(0,{ t with b:=t.b++s }) from by unfold qC6;rw [zL1 (by rw [hof];decide),hcu])
   rw [HX.out]
   refine (qK8 h hof hcu s hs).mono ?_
   rintro ev w' ⟨rfl,c2,he,ht⟩
   exact ⟨rfl,c2,he,ht⟩
  | some n =>
   have hn:=hcut n hcu
   have HX:=Hh (show qC6 t s=(if n<s.length then (13,{ t with b:=t.b++s.take n,off:=true }) else (0,{ t with b:=t.b++s,cut:=some (n-s.length) })) from by unfold qC6;rw [zL1 (by rw [hof];decide),hcu])
   generalize qC6 t s=r at HX ⊢
   obtain ⟨A,cap,h⟩:=h
   have c0:=ce0 h.own
   have c1:=ce1 h.own
   have c2:=ce2 h.own
   rw [hof] at c1
   rw [show qJr t=(n:Int) from by unfold qJr;rw [hcu]] at c2
   have i0:(0:Int)≤(n:Int):=by omega
   by_cases hnl:n<s.length
   ·rw [zM1 hnl] at HX
    have i1:(n:Int)<(s.length:Int):=by omega
    have i2:(n:Int)≤(s.length:Int):=by omega
    obtain ⟨A1,cp1,w1,ha1,e10,e1f,e11,e1g,k1,he1,ht1⟩:=h.cutEnd (Ext.refl w c S0) hof (s.take n) n (by rw [List.length_take];omega) (by omega)
    obtain ⟨A2,cp2,w2,ha2,e20,e2f,e21,e2g,k2,he2,ht2⟩:=h.cutEnd ((Ext.refl w c S0).drew) hof (s.take n) n (by rw [List.length_take];omega) (by omega)
    rw [← qBb] at ha1 ha2
    have g1:=hgo _ _ (hE.ext he1 rfl)
    have g2:=hgo _ _ (hE.ext he2 rfl)
    have HA1:=Hh ha1
    have HA2:=Hh ha2
    have HE1:=Hh he1
    have HE2:=Hh he2
    have HT1:=Hh ht1
    have HT2:=Hh ht2
    clear h hE hgo ha1 ha2 he1 he2 ht1 ht2
    go_enter Tryz.func48,Tryz.ntmps48
    go_upto_region 4 with fail
    go_region_law
     (first
      | (refine qGs (by rfl) (.tmp 28) (.tmp 34) 52 9 (by rfl) (by rfl) (by rfl) HA1.out ?_)
      | (refine qGs (by rfl) (.tmp 28) (.tmp 34) 52 9 (by rfl) (by rfl) (by rfl) HA2.out ?_)
      | fail)
    all_goals
     go_wp2
     go_ret
     rw [HX.out]
     first
      | exact ⟨rfl,k1,HE1.out,_,_,HT1.out⟩
      | exact ⟨rfl,k2,HE2.out,_,_,HT2.out⟩
   ·rw [zL1 hnl] at HX
    have i1:¬ (n:Int)<(s.length:Int):=by omega
    have i2:IntKind.i64.wrap ((n:Int)-(s.length:Int))=((n-s.length:Nat):Int):=by rw [wrap_i64 (by omega) (by omega)];omega
    have f2:=qAb h.own 2
    obtain ⟨A1,cp1,w1,ha1,e10,e1f,k1,he1,ht1⟩:=h.countEnd (some (n-s.length)) s hs
    have HA1:=Hh ha1
    have HE1:=Hh he1
    have HT1:=Hh ht1
    have d0:=ce0 (h.setCut (some (n-s.length))).1.own
    clear h hE hgo ha1 he1 ht1
    go_enter Tryz.func48,Tryz.ntmps48
    go_wp2_with (at_builtin;refine qCD rfl _ _ 52 9 rfl rfl rfl HA1.out ?_)
    go_ret
    rw [HX.out]
    exact ⟨rfl,k1,HE1.out,_,_,HT1.out⟩
theorem qLl (h:TapeAt w c b t) (hE:Env w c p) (s:List UInt8) (hs:s.length≤1000000) (hb:t.b.length≤1048576) (hcut:∀ n,t.cut=some n→n≤9223372036854775807) :
  Calls Tryz.prog 20 #[.pointer (some ⟨b,0,none⟩),.string ⟨s.toArray⟩] w (qKw p w c b (t.append s)):=by
 have HE:=Hh hE
 have H0:=Hh h
 have HX:=Hh (qHX t s)
 have hG:∀ (k:Nat),1≤k→k≤13→∀ (W:World),Below w.heap.size w W→W.cell? ⟨qCq k,0,none⟩=some (.iface 377 (.pointer (some (p k)))):=fun k h1 h2 W hb=>by
  have:=(hE.below hb).errs.cell k h1 h2
  rwa [qAc p (by omega)] at this
 have HG:=Hh hG
 generalize t.append s=res at HX ⊢
 by_cases h1:20000<s.length
 ·rw [zM1 h1] at HX
  have i1:(20000:Int)<(s.length:Int):=by omega
  have g1:w.cell? ⟨0,0,none⟩=some (.iface 377 (.pointer (some (p 2)))):=hG 2 (by decide) (by decide) w (zB _ _)
  clear h hE hG
  go_enter Tryz.func20,Tryz.ntmps20
  go_wp2
  go_ret
  rw [HX.out]
  exact ⟨rfl,c,Ext.refl _ _ _,H0.out⟩
 ·rw [zL1 h1] at HX
  have hrl:(record s).length≤20000+20010:=by
   have h2:=qCA (s.length+1) s.length
   have h3:(dec s.length).length≤s.length+1:=h2
   unfold record
   simp only [zP,zQ,List.length_nil]
   omega
  have HW:=Hh (fun (W:World) (hbw:Below w.heap.size w W)=>qNl (h.ext (Ext.of_below hbw c S0) rfl rfl) (hE.below hbw) (record s) (by omega) hcut)
  obtain ⟨A,cap,h⟩:=h
  have HREC:=Hh (fun (W:World) (hb:Below w.heap.size w W)=>qE0 s (by omega) W (hE.vars.later hb))
  generalize record s=r at *
  have c0:=ce0 h.own
  have hbl:=qAa h.own
  have i1:¬ (20000:Int)<(s.length:Int):=by omega
  have i3:IntKind.i64.wrap (1048576-(t.b.length:Int))=1048576-(t.b.length:Int):=wrap_i64 (by omega) (by omega)
  have HD0:=Hh (zB w.heap.size w).drew
  clear h hE hG hs hb hcut
  by_cases h2:1048576<t.b.length+r.length
  ·rw [zM1 h2] at HX
   have i2:(1048576-(t.b.length:Int))<(r.length:Int):=by omega
   go_enter Tryz.func20,Tryz.ntmps20
   go_upto_region 5 with fail
   go_region_held3 (fun w'=>w'.cell? ⟨b,0,none⟩=some (.slice A t.b.length cap))
    (first
     | exact c0
     | exact d0
     | go_keep)
    (first
     | (go_at_call 47;refine (HREC.out _ HD0.out).mono ?_;rintro ev w2 ⟨rfl,hb2⟩;have HB2:=Hh (HD0.out.trans hb2);have d0:=(HB2.out.cell (p:=⟨b,0,none⟩) hbl).trans c0;clear hb2)
     | fail)
   clear c0 d0
   have g1:w2.cell? ⟨4,0,none⟩=some (.iface 377 (.pointer (some (p 8)))):=HG.out 8 (by decide) (by decide) w2 HB2.out
   go_wp2
   go_ret
   rw [HX.out]
   exact ⟨rfl,c,Ext.of_below HB2.out c _,H0.out.ext (Ext.of_below HB2.out c S0) rfl rfl⟩
  ·rw [zL1 h2] at HX
   have i2:¬ (1048576-(t.b.length:Int))<(r.length:Int):=by omega
   go_enter Tryz.func20,Tryz.ntmps20
   go_upto_region 5 with fail
   go_region_held3 (fun w'=>w'.cell? ⟨b,0,none⟩=some (.slice A t.b.length cap))
    (first
     | exact c0
     | exact d0
     | go_keep)
    (first
     | (go_at_call 47;refine (HREC.out _ HD0.out).mono ?_;rintro ev w2 ⟨rfl,hb2⟩;have HB2:=Hh (HD0.out.trans hb2);have d0:=(HB2.out.cell (p:=⟨b,0,none⟩) hbl).trans c0;clear hb2)
     | fail)
   clear c0 d0
   go_wp2_with (first
    | (go_at_call 47;refine (HREC.out _ HB2.out).mono ?_;rintro ev w3 ⟨rfl,hb3⟩;have HB3:=Hh (HB2.out.trans (hb3.mono HB2.out.size));clear hb3)
    | (go_at_call 48;refine (HW.out _ HB3.out).mono ?_;rintro ev w4 ⟨rfl,c4,he4,ht4⟩))
   go_ret
   rw [HX.out]
   exact ⟨rfl,c4,(Ext.of_below HB3.out c qAY).trans he4,ht4⟩
end
end Go.Proofs.YtceklhjomhjipaaGreatDoor
namespace Go.Proofs.YtceklhjomhjipaaGreatDoor
open Go.RowKit Go.Sort Go.Shelf Stl
section
variable {w:World} {c:Nat→Col} {b:Nat} {t:Stl.Tape} {p:Nat→Addr}
theorem qIx (h:TapeAt w c b t):Calls Tryz.prog 9 #[.pointer (some ⟨b,0,none⟩)] w fun e w'=>e=.returned (.bool (!t.off))∧w'=w:=by
 obtain ⟨A,cap,h⟩:=h
 have c1:=ce1 h.own
 clear h
 generalize t.off=o at *
 go_enter Tryz.func9,Tryz.ntmps9
 go_wp2
 go_ret
 exact ⟨rfl,rfl⟩
theorem qI3 (h:TapeAt w c b t) (hof:t.off=false) (n:Nat) (hn:n≤9223372036854775807) :
  Calls Tryz.prog 8 #[.pointer (some ⟨b,0,none⟩),.int .i64 n] w fun e w'=>e=.returned .nilIface∧Ext w w' c c qAY∧TapeAt w' c b { t with cut:=some n }:=by
 obtain ⟨A,cap,h⟩:=h
 obtain ⟨h1,h2⟩:=h.setCut (some n)
 have H1:=Hh h1
 have H2:=Hh h2
 have c1:=ce1 h.own
 have c2:=ce2 h.own
 have f2:=qAb h.own 2
 rw [hof] at c1
 have i0:(0:Int)≤(n:Int):=by omega
 clear h h1 h2
 generalize qJr t=q at *
 go_enter Tryz.func8,Tryz.ntmps8
 go_wp2
 go_ret
 exact ⟨rfl,H2.out,A,cap,H1.out⟩
theorem TapeIn.on {A:Option Addr} {cap:Nat} (h:TapeIn w c b t A cap):TapeIn ((w.setCell ⟨b,1,none⟩ (.bool false)).setCell ⟨b,2,none⟩ (.int .i64 (-1))) c b { t with off:=false,cut:=none } A cap∧Ext w ((w.setCell ⟨b,1,none⟩ (.bool false)).setCell ⟨b,2,none⟩ (.int .i64 (-1))) c c qAY:=by
 obtain ⟨h1,e1⟩:=h.setOff false
 obtain ⟨h2,e2⟩:=h1.setCut none
 exact ⟨h2,e1.trans e2⟩
theorem qQR (h:TapeAt w c b t):Calls Tryz.prog 50 #[.pointer (some ⟨b,0,none⟩)] w fun e w'=>e=.returned (.tuple #[])∧Ext w w' c c qAY∧TapeAt w' c b { t with off:=false,cut:=none }:=by
 obtain ⟨A,cap,h⟩:=h
 obtain ⟨h1,h2⟩:=h.on
 have H1:=Hh h1
 have H2:=Hh h2
 have c1:=ce1 h.own
 have c2:=ce2 h.own
 have f1:=qAb h.own 1
 have f2:=qAb h.own 2
 have d2:=ce2 (h.setOff false).1.own
 have g2:=qAb (h.setOff false).1.own 2
 clear h h1 h2
 go_enter Tryz.func50,Tryz.ntmps50
 go_wp2
 go_end0
 exact ⟨rfl,H2.out,A,cap,H1.out⟩
end
end Go.Proofs.YtceklhjomhjipaaGreatDoor
namespace Stl
theorem qRC (c:UInt8) {l a b:Bytes} (h:cutAt c l=some (a,b)):l=a++c::b:=by
 rcases qEL c l with ⟨h1,_,_⟩ | ⟨a',b',h1,_,h3⟩
 ·rw [h1] at h;cases h
 ·rw [h1] at h
  injection h with h
  injection h with h4 h5
  rw [h3,h4,h5]
theorem qD0 {x r:Bytes} (h:qA0 x=some r):∃ y,x=record r++y:=by
 unfold qA0 at h
 cases hc:cutAt 58 x with
 | none=>rw [hc] at h;cases h
 | some q =>
  obtain ⟨d,rest⟩:=q
  rw [hc] at h
  simp only at h
  cases hn:numberOf d 9 with
  | none=>rw [hn] at h;cases h
  | some n =>
   rw [hn] at h
   simp only at h
   split at h
   ·cases h
   ·rename_i hb
    injection h with h
    have hx:=qRC 58 hc
    have h2:=(qCn d 9 (by omega) n).1 hn
    rw [qEu] at h2
    have hlen:¬ rest.length<n+2:=fun h=>hb (.inr (.inl h))
    have h10:(rest.drop n).take 2=[10,46]:=Classical.byContradiction fun h=>hb (.inr (.inr h))
    have hr:r.length=n:=by rw [← h,List.length_take];omega
    refine ⟨(rest.drop n).drop 2,?_⟩
    have e1:rest=rest.take n++((rest.drop n).take 2++(rest.drop n).drop 2):=by rw [List.take_append_drop,List.take_append_drop]
    rw [h,h10] at e1
    rw [hx,← h2.2.2]
    unfold record
    rw [hr]
    conv=>lhs;rw [e1]
    simp
theorem qET (r:Bytes):3≤(record r).length:=by
 unfold record
 simp only [zP,zQ,List.length_nil]
 omega
theorem qEA:∀ (f g:Nat) (x:Bytes),x.length<f→x.length<g→qAn f x=qAn g x
 | f+1,g+1,x,hf,hg=>by
  unfold qAn
  cases h:qA0 x with
  | none=>rfl
  | some r =>
   obtain ⟨y,hy⟩:=qD0 h
   have hl:x.length=(record r).length+y.length:=by rw [hy,zP]
   have h3:=qET r
   simp only
   rw [qEA f g (x.drop (record r).length) (by rw [List.length_drop];omega) (by rw [List.length_drop];omega)]
theorem qHv {f:Nat} {x:Bytes} (h:qA0 x=none):qAn f x=([],0):=by
 cases f with
 | zero=>rfl
 | succ f=>unfold qAn;rw [h]
structure ReadUp (b:Bytes) (at_:Nat) (out:List Bytes):Prop where
 le:at_≤b.length
 eq:qAn (b.length+1) b=(out++(qAn (b.length+1) (b.drop at_)).1,at_+(qAn (b.length+1) (b.drop at_)).2)
theorem qJk (b:Bytes):ReadUp b 0 []:=⟨zx _,by simp⟩
theorem ReadUp.more {b:Bytes} {at_:Nat} {out:List Bytes} (h:ReadUp b at_ out) {r:Bytes} (hr:qA0 (b.drop at_)=some r):ReadUp b (at_+(record r).length) (out++[r])∧at_+(record r).length≤b.length:=by
 obtain ⟨y,hy⟩:=qD0 hr
 have hl:(b.drop at_).length=(record r).length+y.length:=by rw [hy,zP]
 rw [List.length_drop] at hl
 have hle:=h.le
 refine ⟨⟨by omega,?_⟩,by omega⟩
 rw [h.eq]
 have e:qAn (b.length+1) (b.drop at_)=(r::(qAn b.length ((b.drop at_).drop (record r).length)).1,(record r).length+(qAn b.length ((b.drop at_).drop (record r).length)).2):=by
  conv=>lhs;unfold qAn
  rw [hr]
 have h3:=qET r
 rw [e,List.drop_drop,qEA b.length (b.length+1) (b.drop (at_+(record r).length)) (by rw [List.length_drop];omega) (by rw [List.length_drop];omega)]
 simp [Nat.add_assoc]
theorem ReadUp.done {b:Bytes} {at_:Nat} {out:List Bytes} (h:ReadUp b at_ out) (hr:qA0 (b.drop at_)=none):qAn (b.length+1) b=(out,at_):=by
 rw [h.eq,qHv hr]
 simp
end Stl
namespace Go.Proofs.YtceklhjomhjipaaGreatDoor
open Go.RowKit Go.Sort Go.Shelf Stl
def qQn (o:Option (List UInt8)) (e:Ending):Prop :=
 ∃ (a:ByteArray) (is:Bool),e=.returned (.tuple #[.string a,.bool is])∧match o with | none=>is=false | some r=>is=true∧a=⟨r.toArray⟩
def qP5 (s:List UInt8) (w:World) (e:Ending) (w':World):Prop :=
 ∃ (n:Int) (er:Value),e=.returned (.tuple #[.int .i64 n,er])∧Below w.heap.size w w'∧((er=.nilIface∧Lib.atoiAll s=.ok n∧n≤9223372036854775807)∨((∃ te pe,er=.iface te pe)∧∀ v,Lib.atoiAll s≠.ok v))
theorem qKi (s:List UInt8) (hs:s.length≤4000000) (w:World) (hv:LibVars w):Calls Tryz.prog 139 #[.string ⟨s.toArray⟩] w (qP5 s w):=by
 obtain ⟨e2,hsy1,hsy2⟩:=hv.syn
 obtain ⟨e3,hrg1,hrg2⟩:=hv.rng
 rcases ha:Lib.atoiAll s with v | _ | _
 ·refine (Tryz.strconv_Atoi_ok ⟨s.toArray⟩ (by show s.toArray.size≤_;simp;omega) v (by simpa using ha) w).mono ?_
  rintro e w' ⟨rfl,h⟩
  refine ⟨v,_,rfl,?_,.inl ⟨rfl,ha,qGQ ha⟩⟩
  rcases h with rfl | ⟨t,rfl⟩
  ·exact zB _ _
  ·exact Lib.bytesWorld_below w _ t
 ·refine (Tryz.strconv_Atoi_syntax ⟨s.toArray⟩ (by show s.toArray.size≤_;simp;omega) (by first | simpa using ha | exact ha) e2 w hsy1 hsy2).mono ?_
  rintro e w' ⟨N,rfl,_,_,hb⟩
  exact ⟨_,_,rfl,hb,.inr ⟨⟨_,_,rfl⟩,fun v h=>by rw [ha] at h;cases h⟩⟩
 ·refine (Tryz.strconv_Atoi_range ⟨s.toArray⟩ (by show s.toArray.size≤_;simp;omega) (by simpa using ha) e3 w hrg1 hrg2).mono ?_
  rintro e w' ⟨N,rfl,_,_,hb⟩
  exact ⟨_,_,rfl,hb,.inr ⟨⟨_,_,rfl⟩,fun v h=>by rw [ha] at h;cases h⟩⟩
theorem qMw {d rest s:List UInt8} (hc:cutAt 58 s=some (d,rest)) (h:∀ n:Nat,¬ (Lib.atoiAll d=.ok (n:Int)∧d.length≤9∧Lib.itoa (n:Int)=d)):qA0 s=none:=by
 unfold qA0
 rw [hc]
 simp only
 cases hn:numberOf d 9 with
 | none=>rfl
 | some n=>exact absurd ((qCn d 9 (by omega) n).1 hn) (h n)
theorem qQd (s:List UInt8) (hs:s.length≤4000000) (w:World) (hv:LibVars w) :
  Calls Tryz.prog 100 #[.string ⟨s.toArray⟩] w fun e w'=>Below w.heap.size w w'∧qQn (qA0 s) e:=by
 have HV:=Hh hv
 have HM:=Hh hv.max
 cases hc:cutAt 58 s with
 | none =>
  have HX:=Hh (show qA0 s=none by unfold qA0;rw [hc])
  have HCUT:=Hh (qE8 58 hc hs w HM.out)
  have HAT:=Hh (fun (W:World) (hb:Below w.heap.size w W)=>qKi s hs W (HV.out.later hb))
  generalize qA0 s=o at HX ⊢
  clear hc hv
  go_enter Tryz.func100,Tryz.ntmps100
  go_wp2_with (first
   | (go_at_call 37;refine HCUT.out.mono ?_;rintro ev w1 ⟨rfl,hb1⟩;have HB1:=Hh hb1;clear hb1)
   | (go_at_call 139;refine (HAT.out w1 HB1.out).mono ?_;rintro ev w2 ⟨n2,er2,rfl,hb2,hm2⟩;have HB2:=Hh (HB1.out.trans (hb2.mono HB1.out.size));clear hb2 hm2))
  go_ret2
  refine ⟨HB2.out,_,_,rfl,?_⟩
  rw [HX.out]
 | some q =>
  obtain ⟨d,rest⟩:=q
  have hp:=qRC 58 hc
  have hsl:s.length=d.length+(rest.length+1):=by rw [hp];simp
  have HCUT:=Hh (qDh 58 hc hs w HM.out)
  have HNO:=Hh (qMw hc)
  have HYS:=Hh (fun (n:Nat) (hn:numberOf d 9=some n)=>(show qA0 s=if 20000<n∨rest.length<n+2∨(rest.drop n).take 2≠[10,46] then none else some (rest.take n) from by unfold qA0;rw [hc];simp only [hn]))
  have HAT:=Hh (fun (W:World) (hb:Below w.heap.size w W)=>qKi d (by omega) W (HV.out.later hb))
  generalize qA0 s=o at HNO HYS ⊢
  clear hc hv hp
  have HP:=Hh HV.out.pow
  have HIT:=Hh (fun (n:Nat) (hbig:(n:Int)≤9223372036854775807) (w2:World) (hb:Below w.heap.size w w2)=>(show Calls Tryz.prog 71 #[.int .i64 n] w2 fun e w'=>e=.returned (.string ⟨(Lib.itoa (n:Int)).toArray⟩)∧Below w2.heap.size w2 w' from (Tryz.strconv_Itoa n (by omega) hbig w2 (qFN HP.out hb)).mono (by
   rintro e w' ⟨rfl,k,os,rfl⟩
   exact ⟨rfl,qEZ (Below.drewN (zB _ w2) k) (zq _) os⟩)))
  go_enter Tryz.func100,Tryz.ntmps100
  go_upto_region 3 with (first
   | (go_at_call 37;refine HCUT.out.mono ?_;rintro ev w1 ⟨rfl,hb1⟩;have HB1:=Hh hb1;clear hb1)
   | (go_at_call 139;refine (HAT.out w1 HB1.out).mono ?_;rintro ev w2 ⟨n2,er2,rfl,hb2,hm2⟩;have HB2:=Hh (HB1.out.trans (hb2.mono HB1.out.size));clear hb2))
  rcases hm2 with ⟨rfl,ha,hle⟩ | ⟨⟨te,pe,rfl⟩,hno⟩
  case inr =>
   have HN:=Hh (HNO.out fun n h=>hno _ h.1)
   clear hno
   go_wp2
   go_ret2
   refine ⟨HB2.out,_,_,rfl,?_⟩
   rw [HN.out]
  have HA:=Hh ha
  clear ha
  by_cases h6:d.length≤9
  case neg =>
   have HN:=Hh (HNO.out fun n h=>h6 h.2.1)
   have i6:¬ (d.length:Int)≤9:=by omega
   clear h6
   go_wp2
   go_ret2
   refine ⟨HB2.out,_,_,rfl,?_⟩
   rw [HN.out]
  have i6:(d.length:Int)≤9:=by omega
  by_cases h0:0≤n2
  case neg =>
   have HN:=Hh (HNO.out fun n h=>by
    have h1:=h.1
    rw [HA.out] at h1
    injection h1 with h1
    exact h0 (by omega))
   clear h6
   go_wp2
   go_ret2
   refine ⟨HB2.out,_,_,rfl,?_⟩
   rw [HN.out]
  obtain ⟨n,rfl⟩:=Int.eq_ofNat_of_zero_le h0
  have HITn:=Hh (HIT.out n hle _ HB2.out)
  by_cases hi:Lib.itoa (n:Int)=d
  case neg =>
   have HN:=Hh (HNO.out fun m h=>by
    have h1:=h.1
    rw [HA.out] at h1
    injection h1 with h1
    exact hi (by rw [h1];exact h.2.2))
   have hq:(Lib.itoa (n:Int)==d)=false:=by simpa using hi
   clear h6 hi HIT
   generalize Lib.itoa (n:Int)=t at *
   go_wp2_with (first
    | (go_at_call 71;refine HITn.out.mono ?_;rintro ev w3 ⟨rfl,hb3⟩;have HB3:=Hh (HB2.out.trans (hb3.mono HB2.out.size));clear hb3)
    | fail)
   go_ret2
   refine ⟨HB3.out,_,_,rfl,?_⟩
   rw [HN.out]
  have HN:=Hh (HYS.out n ((qCn d 9 (by omega) n).2 ⟨HA.out,h6,hi⟩))
  have hq:(Lib.itoa (n:Int)==d)=true:=by simpa using hi
  clear h6 hi HIT HYS HNO HA
  generalize Lib.itoa (n:Int)=t at *
  by_cases b1:20000<n
  ·rw [zM1 (.inl b1)] at HN
   have j1:(20000:Int)<(n:Int):=by omega
   clear b1
   go_wp2_with (first
    | (go_at_call 71;refine HITn.out.mono ?_;rintro ev w3 ⟨rfl,hb3⟩;have HB3:=Hh (HB2.out.trans (hb3.mono HB2.out.size));clear hb3)
    | fail)
   go_ret2
   refine ⟨HB3.out,_,_,rfl,?_⟩
   rw [HN.out]
  have j1:(n:Int)≤20000:=by omega
  by_cases b2:rest.length<n+2
  ·rw [zM1 (.inr (.inl b2))] at HN
   have j2:(rest.length:Int)<(n:Int)+2:=by omega
   clear b2
   go_wp2_with (first
    | (go_at_call 71;refine HITn.out.mono ?_;rintro ev w3 ⟨rfl,hb3⟩;have HB3:=Hh (HB2.out.trans (hb3.mono HB2.out.size));clear hb3)
    | fail)
   go_ret2
   refine ⟨HB3.out,_,_,rfl,?_⟩
   rw [HN.out]
  have j2:¬ (rest.length:Int)<(n:Int)+2:=by omega
  have j3:(n:Int)+2≤(rest.length:Int):=by omega
  have j4:(n:Int)≤(rest.length:Int):=by omega
  have HXE:=Hh (show (rest.take (n+2)).drop n=(rest.drop n).take 2 by rw [List.drop_take,show n+2-n=2 by omega])
  have hx1:(⟨rest.toArray⟩:ByteArray).extract n (n+2)=⟨((rest.take (n+2)).drop n).toArray⟩:=qI2 rest n (n+2)
  by_cases b3:(rest.drop n).take 2=[10,46]
  ·rw [zL1 (fun h=>by rcases h with h | h | h;exact b1 h;exact b2 h;exact h b3)] at HN
   rw [HXE.out,b3] at hx1
   clear b1 b2 b3 HXE
   go_wp2_with (first
    | (go_at_call 71;refine HITn.out.mono ?_;rintro ev w3 ⟨rfl,hb3⟩;have HB3:=Hh (HB2.out.trans (hb3.mono HB2.out.size));clear hb3)
    | fail)
   go_ret2
   refine ⟨HB3.out,_,_,rfl,?_⟩
   rw [HN.out]
   exact ⟨rfl,qBb rest n⟩
  ·rw [zM1 (.inr (.inr b3))] at HN
   rw [HXE.out] at hx1
   have hx2:((rest.drop n).take 2==[10,46])=false:=by rw [zG1];exact b3
   clear b1 b2 b3 HXE
   generalize (rest.drop n).take 2=two at *
   go_wp2_with (first
    | (go_at_call 71;refine HITn.out.mono ?_;rintro ev w3 ⟨rfl,hb3⟩;have HB3:=Hh (HB2.out.trans (hb3.mono HB2.out.size));clear hb3)
    | fail)
   go_ret2
   refine ⟨HB3.out,_,_,rfl,?_⟩
   rw [HN.out]
end Go.Proofs.YtceklhjomhjipaaGreatDoor
