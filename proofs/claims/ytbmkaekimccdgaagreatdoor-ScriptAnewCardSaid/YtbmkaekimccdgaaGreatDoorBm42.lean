/- Lemmas. -/
import Derived.Test.YtbmkaekimccdgaaGreatDoorBm39
set_option maxHeartbeats 16000000
set_option maxRecDepth 1000000
set_option linter.all false
namespace Go.Proofs.YtbmkaekimccdgaaGreatDoor
open Go.RowKit Go.Sort Stl
def gO (t:Stl.Tape)(s:List UInt8):Nat×Stl.Tape :=
 if t.off then (13,t) else match t.cut with
  | none=>(0,{ t with b:=t.b++s })
  | some n=>if n<s.length then (13,{ t with b:=t.b++s.take n,off:=true }) else (0,{ t with b:=t.b++s,cut:=some (n-s.length) })
theorem qEq (t:Stl.Tape)(s:List UInt8):t.append s=if 20000<s.length then (2,t) else if 1048576<t.b.length+(record s).length then (8,t) else gO t (record s):=by
 unfold Tape.append gO;rfl
section
variable {w w2:World}{c c2:Nat→Col}{S:Col→Bool}{b:Nat}{t:Stl.Tape}{A:Option Addr}{cap:Nat}{p:Nat→Addr}
theorem TapeIn.setOff (h:TapeIn w c b t A cap)(o:Bool):TapeIn (w.setCell ⟨b,1,none⟩ (.bool o)) c b { t with off:=o } A cap∧Ext w (w.setCell ⟨b,1,none⟩ (.bool o)) c c vL:=by
 have hb:=qH h.own 1 (.bool o);refine⟨⟨by simpa[dT] using hb,h.col,h.bytes.go (by simp[World.setCell]) fun k hk hO=>⟨zA _ ⟨b,1,none⟩ _ k (fun e=>by subst e;rw[h.col] at hO;cases hO),hO⟩⟩,(Ext.refl w c vL).setCell (fun _=>by show vL (c b)=true;rw[h.col];rfl) _⟩
theorem TapeIn.setCut (h:TapeIn w c b t A cap)(q:Option Nat):TapeIn (w.setCell ⟨b,2,none⟩ (.int .i64 (dT { t with cut:=q }))) c b { t with cut:=q } A cap∧Ext w (w.setCell ⟨b,2,none⟩ (.int .i64 (dT { t with cut:=q }))) c c vL:=by
 have hb:=qH h.own 2 (.int .i64 (dT { t with cut:=q }));refine⟨⟨by simpa[dT] using hb,h.col,h.bytes.go (by simp[World.setCell]) fun k hk hO=>⟨zA _ ⟨b,2,none⟩ _ k (fun e=>by subst e;rw[h.col] at hO;cases hO),hO⟩⟩,(Ext.refl w c vL).setCell (fun _=>by show vL (c b)=true;rw[h.col];rfl) _⟩
theorem TapeIn.app (h:TapeIn w c b t A cap)(s:List UInt8)(hs:t.b.length+s.length≤4000000) :
  ∃ A' cap' w1,(Builtin.append_ #[89,9] 89 #[.slice A t.b.length cap,.string ⟨s.toArray⟩]).run Tryz.prog w=.ok (.slice A' (t.b.length+s.length) cap') w1 ∧
   w1.heap[b]?=some (.cells #[.slice A t.b.length cap,.bool t.off,.int .i64 (dT t)] 91 (0,0)) ∧
   ∃ c2,Ext w (w1.setCell ⟨b,0,none⟩ (.slice A' (t.b.length+s.length) cap')) c c2 vL∧TapeIn (w1.setCell ⟨b,0,none⟩ (.slice A' (t.b.length+s.length) cap')) c2 b { t with b:=t.b++s } A' cap':=by
 have hblt:=qA h.own;obtain⟨i,hi,hz0,hz1,hz2⟩:=(show xX 5 (.int .u8 0) 1 1 from xQ (by kernel_rfl) rfl (by decide)).info;have hsrc:=Src.ofString w (P:=Tryz.prog) Tryz.underlying9 ⟨s.toArray⟩;obtain⟨A',cap',w1,happ,hq,hk⟩:=h.bytes.app (ty:=89) Tryz.underlying89 hi hz0 hz1 hz2 rfl (.string ⟨s.toArray⟩) s.length (oJ s) hsrc (by unfold maxLen;omega) (by omega);have hne:c b≠.tapeL:=by rw[h.col];decide
 have hb1:w1.heap[b]?=some (.cells #[.slice A t.b.length cap,.bool t.off,.int .i64 (dT t)] 91 (0,0)):=(hk.block b (qA h.own) hne).trans h.own;have hsz:=hk.size;have hs0:=qH hb1 0 (.slice A' (t.b.length+s.length) cap');have he1:Ext w w1 c (fun k=>if k<w.heap.size then c k else .tapeL) vL:=⟨hk.os,hk.tape,hk.output,hsz,fun k hkk hS=>⟨hk.block k hkk (fun e=>by rw[e] at hS;cases hS),zM1 hkk⟩⟩;have hl:(t.b++s).length=t.b.length+s.length:=zP;refine⟨A',cap',w1,happ,hb1,fun k=>if k<w.heap.size then c k else .tapeL,?_,?_,?_,?_⟩
 ·exact he1.setCell (fun _=>by simp only;rw[h.col];rfl) _
 ·simp only[hl];simpa[dT] using hs0
 ·show (if b<w.heap.size then c b else Col.tapeL)=_;rw[zM1 hblt];exact h.col
 ·simp only[hl];rw[qCW];refine(hq.go (O':=fun k=>(c k=.tapeL∧k<w.heap.size)∨w.heap.size≤k) (zo _) fun k hk1 hO=>⟨rfl,?_⟩).go (w':=w1.setCell ⟨b,0,none⟩ (.slice A' (t.b.length+s.length) cap')) (by simp[World.setCell]) fun k hk1 hO=>?_
  ·rcases hO with hO | hO
   ·by_cases hkl:k<w.heap.size
    ·exact .inl ⟨hO,hkl⟩
    ·exact .inr (by omega)
   ·exact .inr hO
  ·have hkb:k≠b:=by
    rcases hO with ⟨hO,_⟩ | hO
    ·intro e;subst e;rw[h.col] at hO;cases hO
    ·omega
   refine⟨zA _ ⟨b,0,none⟩ _ k hkb,?_⟩;show (if k<w.heap.size then c k else Col.tapeL)=_
   rcases hO with ⟨hO,h2⟩ | hO
   ·rw[zM1 h2];exact hO
   ·rw[zL1 (by omega)]
theorem qCz {P:Program}{W:World}{ops:Array Oper}{o:Oper}{a:Act}{K:Act→World→Prop}{Q:Exit→Act→World→Prop}{E:Prop}(hgd:o.guard=none)(s x:Operand)(t tx:TypeId)
  (ho:o.op=.call { callee:=.builtin .append,args:=#[s,x],argTypes:=#[t,tx] }) {v y v':Value} {W':World} (hs:a.eval s=v) (hx:a.eval x=y)
  (hr:(Builtin.append_ #[t,tx] o.type #[v,y]).run P W=.ok v' W') (h:K (a.put o.dst v') W'):if Region.wanted o (yielded ops a.tmps)=true then Oper.wp P o a W K Q else E:=by
 have hw:Region.wanted o (yielded ops a.tmps)=true:=by simp[Region.wanted,hgd]
 rw[zM1 hw];unfold Oper.wp execOp;simp only[ho,resolve,invoke,builtin,Sem.run_bind,Sem.run_pure,Result.andThen_ok,List.map_toArray,zV,List.map_nil,hs,hx,hr];exact h
theorem TapeIn.cutEnd {W:World}(h:TapeIn w c b t A cap)(hd:Ext w W c c S0)(hof:t.off=false)(s:List UInt8)(m:Nat)(hm:s.length=m)(hs:t.b.length+m≤4000000) :
  ∃ A' cap' w1,(Builtin.append_ #[89,9] 89 #[.slice A t.b.length cap,.string ⟨s.toArray⟩]).run Tryz.prog W=.ok (.slice A' (t.b.length+m) cap') w1 ∧
   w1.cell? ⟨b,0,none⟩=some (.slice A t.b.length cap)∧w1.frozen? ⟨b,0,none⟩=false ∧
   (w1.setCell ⟨b,0,none⟩ (.slice A' (t.b.length+m) cap')).cell? ⟨b,1,none⟩=some (.bool false)∧(w1.setCell ⟨b,0,none⟩ (.slice A' (t.b.length+m) cap')).frozen? ⟨b,1,none⟩=false ∧
   ∃ c2,Ext w ((w1.setCell ⟨b,0,none⟩ (.slice A' (t.b.length+m) cap')).setCell ⟨b,1,none⟩ (.bool true)) c c2 vL∧TapeIn ((w1.setCell ⟨b,0,none⟩ (.slice A' (t.b.length+m) cap')).setCell ⟨b,1,none⟩ (.bool true)) c2 b { t with b:=t.b++s,off:=true } A' cap':=by
 subst hm;have hD:=h.ext hd rfl rfl;obtain⟨A',cap',w1,happ,hb1,c2,he,ht⟩:=hD.app s hs;obtain⟨h1,h2⟩:=ht.setOff true;have d1:=ce1 ht.own;simp only at d1;rw[hof] at d1;exact⟨A',cap',w1,happ,zJ1 _ b 0 _ _ _ hb1,qC hb1 0,d1,qC ht.own 1,c2,(hd.mono (fun _ _=>rfl)).trans (he.trans h2),h1⟩
theorem TapeIn.countEnd (h:TapeIn w c b t A cap)(q:Option Nat)(s:List UInt8)(hs:t.b.length+s.length≤4000000) :
  ∃ A' cap' w1,(Builtin.append_ #[89,9] 89 #[.slice A t.b.length cap,.string ⟨s.toArray⟩]).run Tryz.prog (w.setCell ⟨b,2,none⟩ (.int .i64 (dT { t with cut:=q })))=.ok (.slice A' (t.b.length+s.length) cap') w1 ∧
   w1.cell? ⟨b,0,none⟩=some (.slice A t.b.length cap)∧w1.frozen? ⟨b,0,none⟩=false ∧
   ∃ c2,Ext w (w1.setCell ⟨b,0,none⟩ (.slice A' (t.b.length+s.length) cap')) c c2 vL∧TapeIn (w1.setCell ⟨b,0,none⟩ (.slice A' (t.b.length+s.length) cap')) c2 b { t with b:=t.b++s,cut:=q } A' cap':=by
 obtain⟨h1,h2⟩:=h.setCut q;obtain⟨A',cap',w1,happ,hb1,c2,he,ht⟩:=h1.app s hs;exact⟨A',cap',w1,happ,zJ1 _ b 0 _ _ _ hb1,qC hb1 0,c2,h2.trans he,ht⟩
theorem qJh (h:TapeAt w c b t)(hE:Env w c p)(s:List UInt8)(hs:t.b.length+s.length≤4000000)(hcut:∀ n,t.cut=some n→n≤9223372036854775807) :
  Calls Tryz.prog 83 #[.pointer (some ⟨b,0,none⟩),.string ⟨s.toArray⟩] w (qHh p w c b (gO t s)):=by
 have H0:=Hh h;have HE:=Hh hE;have hgo:∀ (W:World) (C:Nat→Col),Env W C p→W.cell? ⟨12,0,none⟩=some (.iface 376 (.pointer (some (p 13)))):=fun W C h=>by
  have h1:=h.errs.cell 13 (by decide) (by decide)
  rwa [qD p (by decide)] at h1
 have HGO:=Hh hgo
 cases hof:t.off with
 | true =>
  have HX:=Hh (show gO t s=(13,t) from by unfold gO;rw[zM1 hof]);generalize gO t s=r at HX ⊢;obtain⟨A,cap,h⟩:=h;have c1:=ce1 h.own;rw[hof] at c1;have g0:=hgo w c hE;clear h hE hgo;go_enter Tryz.func83,Tryz.ntmps83;go_wp2;go_ret;rw[HX.o];exact⟨rfl,c,Ext.refl _ _ _,H0.o⟩
 | false =>
  cases hcu:t.cut with
  | none =>
   have HX:=Hh (show gO t s=(0,{ t with b:=t.b++s }) from by unfold gO;rw[zL1 (by rw[hof];decide),hcu]);rw[HX.o];refine(qMF h hof hcu s hs).mono ?_;rintro ev w' ⟨rfl,c2,he,ht⟩;exact⟨rfl,c2,he,ht⟩
  | some n =>
   have hn:=hcut n hcu;have HX:=Hh (show gO t s=(if n<s.length then (13,{ t with b:=t.b++s.take n,off:=true }) else (0,{ t with b:=t.b++s,cut:=some (n-s.length) })) from by unfold gO;rw[zL1 (by rw[hof];decide),hcu]);generalize gO t s=r at HX ⊢;obtain⟨A,cap,h⟩:=h;have c0:=ce0 h.own;have c1:=ce1 h.own;have c2:=ce2 h.own;rw[hof] at c1;rw[show dT t=(n:Int) from by unfold dT;rw[hcu]] at c2;have i0:(0:Int)≤(n:Int):=by omega
   by_cases hnl:n<s.length
   ·rw[zM1 hnl] at HX;have i1:(n:Int)<(s.length:Int):=by omega
    have i2:(n:Int)≤(s.length:Int):=by omega
    obtain⟨A1,cp1,w1,ha1,e10,e1f,e11,e1g,k1,he1,ht1⟩:=h.cutEnd (Ext.refl w c S0) hof (s.take n) n (by rw[List.length_take];omega) (by omega);obtain⟨A2,cp2,w2,ha2,e20,e2f,e21,e2g,k2,he2,ht2⟩:=h.cutEnd ((Ext.refl w c S0).drew) hof (s.take n) n (by rw[List.length_take];omega) (by omega);rw[← yN] at ha1 ha2;have g1:=hgo _ _ (hE.ext he1 rfl);have g2:=hgo _ _ (hE.ext he2 rfl);have HA1:=Hh ha1;have HA2:=Hh ha2;have HE1:=Hh he1;have HE2:=Hh he2;have HT1:=Hh ht1;have HT2:=Hh ht2;clear h hE hgo ha1 ha2 he1 he2 ht1 ht2;go_enter Tryz.func83,Tryz.ntmps83;go_upto_region 4 with fail
    go_region_law
     (first
      | (refine qCz (by rfl) (.tmp 28) (.tmp 34) 89 9 (by rfl) (by rfl) (by rfl) HA1.o ?_)
      | (refine qCz (by rfl) (.tmp 28) (.tmp 34) 89 9 (by rfl) (by rfl) (by rfl) HA2.o ?_)
      | fail)
    all_goals
     go_wp2;go_ret;rw[HX.o]
     first
      | exact⟨rfl,k1,HE1.o,_,_,HT1.o⟩
      | exact⟨rfl,k2,HE2.o,_,_,HT2.o⟩
   ·rw[zL1 hnl] at HX;have i1:¬ (n:Int)<(s.length:Int):=by omega
    have i2:IntKind.i64.wrap ((n:Int)-(s.length:Int))=((n-s.length:Nat):Int):=by rw[wrap_i64 (by omega) (by omega)];omega
    have f2:=qC h.own 2;obtain⟨A1,cp1,w1,ha1,e10,e1f,k1,he1,ht1⟩:=h.countEnd (some (n-s.length)) s hs;have HA1:=Hh ha1;have HE1:=Hh he1;have HT1:=Hh ht1;have d0:=ce0 (h.setCut (some (n-s.length))).1.own;clear h hE hgo ha1 he1 ht1;go_enter Tryz.func83,Tryz.ntmps83;go_wp2_with (at_builtin;refine qAp rfl _ _ 89 9 rfl rfl rfl HA1.o ?_);go_ret;rw[HX.o];exact⟨rfl,k1,HE1.o,_,_,HT1.o⟩
theorem qHW (h:TapeAt w c b t)(hE:Env w c p)(s:List UInt8)(hs:s.length≤1000000)(hb:t.b.length≤1048576)(hcut:∀ n,t.cut=some n→n≤9223372036854775807) :
  Calls Tryz.prog 38 #[.pointer (some ⟨b,0,none⟩),.string ⟨s.toArray⟩] w (qHh p w c b (t.append s)):=by
 have HE:=Hh hE;have H0:=Hh h;have HX:=Hh (qEq t s);have hG:∀ (k:Nat),1≤k→k≤13→∀ (W:World),Below w.heap.size w W→W.cell? ⟨wA k,0,none⟩=some (.iface 376 (.pointer (some (p k)))):=fun k h1 h2 W hb=>by
  have:=(hE.below hb).errs.cell k h1 h2
  rwa [qD p (by omega)] at this
 have HG:=Hh hG;generalize t.append s=res at HX ⊢;by_cases h1:20000<s.length
 ·rw[zM1 h1] at HX;have i1:(20000:Int)<(s.length:Int):=by omega
  have g1:w.cell? ⟨0,0,none⟩=some (.iface 376 (.pointer (some (p 2)))):=hG 2 (by decide) (by decide) w (zB _ _);clear h hE hG;go_enter Tryz.func38,Tryz.ntmps38;go_wp2;go_ret;rw[HX.o];exact⟨rfl,c,Ext.refl _ _ _,H0.o⟩
 ·rw[zL1 h1] at HX;have hrl:(record s).length≤20000+20010:=by
   have h2:=kO (s.length+1) s.length;have h3:(dec s.length).length≤s.length+1:=h2;unfold record;simp only[zP,zQ,List.length_nil];omega
  have HW:=Hh (fun (W:World) (hbw:Below w.heap.size w W)=>qJh (h.ext (Ext.of_below hbw c S0) rfl rfl) (hE.below hbw) (record s) (by omega) hcut);obtain⟨A,cap,h⟩:=h;have HREC:=Hh (fun (W:World) (hb:Below w.heap.size w W)=>qDF s (by omega) W (hE.vars.later hb));generalize record s=r at *;have c0:=ce0 h.own;have hbl:=qA h.own;have i1:¬ (20000:Int)<(s.length:Int):=by omega
  have i3:IntKind.i64.wrap (1048576-(t.b.length:Int))=1048576-(t.b.length:Int):=wrap_i64 (by omega) (by omega);have HD0:=Hh (zB w.heap.size w).drew;clear h hE hG hs hb hcut;by_cases h2:1048576<t.b.length+r.length
  ·rw[zM1 h2] at HX;have i2:(1048576-(t.b.length:Int))<(r.length:Int):=by omega
   go_enter Tryz.func38,Tryz.ntmps38;go_upto_region 5 with fail
   go_region_held3 (fun w'=>w'.cell? ⟨b,0,none⟩=some (.slice A t.b.length cap))
    (first
     | exact c0
     | exact d0
     | go_keep)
    (first
     | (go_at_call 82;refine(HREC.o _ HD0.o).mono ?_;rintro ev w2 ⟨rfl,hb2⟩;have HB2:=Hh (HD0.o.trans hb2);have d0:=(HB2.o.cell (p:=⟨b,0,none⟩) hbl).trans c0;clear hb2)
     | fail)
   clear c0 d0;have g1:w2.cell? ⟨7,0,none⟩=some (.iface 376 (.pointer (some (p 8)))):=HG.o 8 (by decide) (by decide) w2 HB2.o;go_wp2;go_ret;rw[HX.o];exact⟨rfl,c,Ext.of_below HB2.o c _,H0.o.ext (Ext.of_below HB2.o c S0) rfl rfl⟩
  ·rw[zL1 h2] at HX;have i2:¬ (1048576-(t.b.length:Int))<(r.length:Int):=by omega
   go_enter Tryz.func38,Tryz.ntmps38;go_upto_region 5 with fail
   go_region_held3 (fun w'=>w'.cell? ⟨b,0,none⟩=some (.slice A t.b.length cap))
    (first
     | exact c0
     | exact d0
     | go_keep)
    (first
     | (go_at_call 82;refine(HREC.o _ HD0.o).mono ?_;rintro ev w2 ⟨rfl,hb2⟩;have HB2:=Hh (HD0.o.trans hb2);have d0:=(HB2.o.cell (p:=⟨b,0,none⟩) hbl).trans c0;clear hb2)
     | fail)
   clear c0 d0;go_wp2_with (first
    | (go_at_call 82;refine(HREC.o _ HB2.o).mono ?_;rintro ev w3 ⟨rfl,hb3⟩;have HB3:=Hh (HB2.o.trans (hb3.mono HB2.o.size));clear hb3)
    | (go_at_call 83;refine(HW.o _ HB3.o).mono ?_;rintro ev w4 ⟨rfl,c4,he4,ht4⟩))
   go_ret;rw[HX.o];exact⟨rfl,c4,(Ext.of_below HB3.o c vL).trans he4,ht4⟩
end
end Go.Proofs.YtbmkaekimccdgaaGreatDoor
namespace Go.Proofs.YtbmkaekimccdgaaGreatDoor
open Go.RowKit Go.Sort Go.Shelf Stl
section
variable {w:World}{c:Nat→Col}{b:Nat}{t:Stl.Tape}{p:Nat→Addr}
theorem qFQ (h:TapeAt w c b t)(hof:t.off=false)(n:Nat)(hn:n≤9223372036854775807) :
  Calls Tryz.prog 57 #[.pointer (some ⟨b,0,none⟩),.int .i64 n] w fun e w'=>e=.returned .nilIface∧Ext w w' c c vL∧TapeAt w' c b { t with cut:=some n }:=by
 obtain⟨A,cap,h⟩:=h;obtain⟨h1,h2⟩:=h.setCut (some n);have H1:=Hh h1;have H2:=Hh h2;have c1:=ce1 h.own;have c2:=ce2 h.own;have f2:=qC h.own 2;rw[hof] at c1;have i0:(0:Int)≤(n:Int):=by omega
 clear h h1 h2;generalize dT t=q at *;go_enter Tryz.func57,Tryz.ntmps57;go_wp2;go_ret;exact⟨rfl,H2.o,A,cap,H1.o⟩
theorem qI1 (h:TapeAt w c b t)(hE:Errs w p)(hof:t.off=true)(n:Nat)(hn:n≤9223372036854775807) :
  Calls Tryz.prog 57 #[.pointer (some ⟨b,0,none⟩),.int .i64 n] w fun e w'=>e=.returned (.iface 376 (.pointer (some (p 13))))∧w'=w:=by
 obtain⟨A,cap,h⟩:=h;have c1:=ce1 h.own;rw[hof] at c1;have g1:w.cell? ⟨12,0,none⟩=some (.iface 376 (.pointer (some (p 13)))):=(hE.cell 13 (by decide) (by decide)).trans (by rw[qD p (by decide)]);have i0:(0:Int)≤(n:Int):=by omega
 clear h hE;go_enter Tryz.func57,Tryz.ntmps57;go_wp2;go_ret;exact⟨rfl,rfl⟩
theorem TapeIn.on {A:Option Addr}{cap:Nat}(h:TapeIn w c b t A cap):TapeIn ((w.setCell ⟨b,1,none⟩ (.bool false)).setCell ⟨b,2,none⟩ (.int .i64 (-1))) c b { t with off:=false,cut:=none } A cap∧Ext w ((w.setCell ⟨b,1,none⟩ (.bool false)).setCell ⟨b,2,none⟩ (.int .i64 (-1))) c c vL:=by
 obtain⟨h1,e1⟩:=h.setOff false;obtain⟨h2,e2⟩:=h1.setCut none;exact⟨h2,e1.trans e2⟩
theorem qOy (h:TapeAt w c b t):Calls Tryz.prog 147 #[.pointer (some ⟨b,0,none⟩)] w fun e w'=>e=.returned (.tuple #[])∧Ext w w' c c vL∧TapeAt w' c b { t with off:=false,cut:=none }:=by
 obtain⟨A,cap,h⟩:=h;obtain⟨h1,h2⟩:=h.on;have H1:=Hh h1;have H2:=Hh h2;have c1:=ce1 h.own;have c2:=ce2 h.own;have f1:=qC h.own 1;have f2:=qC h.own 2;have d2:=ce2 (h.setOff false).1.own;have g2:=qC (h.setOff false).1.own 2;clear h h1 h2;go_enter Tryz.func147,Tryz.ntmps147;go_wp2;go_end0;exact⟨rfl,H2.o,A,cap,H1.o⟩
end
theorem StAt.cutAt {w w2:World}{c:Nat→Col}{b tp:Nat}{p:Nat→Addr}{s:Sto}{t t':Stl.Tape}(h:StAt w c b tp p s t)(e:Ext w w2 c c vL)(ht:TapeAt w2 c tp t'):StAt w2 c b tp p s t' :=
 ⟨h.sto.ext e rfl (fun x hx=>by cases x<;>first | rfl | (cases hx)),ht,h.env.ext e rfl⟩
theorem qHC {w:World}{c:Nat→Col}{b tp:Nat}{s:Sto}(h:StoAt w c b s tp):Calls Tryz.prog 56 #[.pointer (some ⟨b,0,none⟩)] w fun e w'=>e=.returned (.pointer (some ⟨tp,0,none⟩))∧w'=w:=by
 obtain⟨xbd,xA,xcap,xzs,xR,xrc,hx⟩:=h.open;have c3:=ce3 hx.own;clear hx h;go_enter Tryz.func56,Tryz.ntmps56;go_wp2;go_ret;exact⟨rfl,rfl⟩
def qN4 (o:Option (List UInt8))(e:Ending):Prop :=
 ∃ (a:ByteArray) (is:Bool),e=.returned (.tuple #[.string a,.bool is])∧match o with | none=>is=false | some r=>is=true∧a=⟨r.toArray⟩
def qNB (s:List UInt8)(w:World)(e:Ending)(w':World):Prop :=
 ∃ (n:Int) (er:Value),e=.returned (.tuple #[.int .i64 n,er])∧Below w.heap.size w w'∧((er=.nilIface∧Lib.atoiAll s=.ok n∧n≤9223372036854775807)∨((∃ te pe,er=.iface te pe)∧∀ v,Lib.atoiAll s≠.ok v))
theorem qHt (s:List UInt8)(hs:s.length≤4000000)(w:World)(hv:LibVars w):Calls Tryz.prog 95 #[.string ⟨s.toArray⟩] w (qNB s w):=by
 obtain⟨e2,hsy1,hsy2⟩:=hv.syn;obtain⟨e3,hrg1,hrg2⟩:=hv.rng
 rcases ha:Lib.atoiAll s with v | _ | _
 ·refine(Tryz.strconv_Atoi_ok ⟨s.toArray⟩ (by show s.toArray.size≤_;simp;omega) v (by simpa using ha) w).mono ?_;rintro e w' ⟨rfl,h⟩;refine⟨v,_,rfl,?_,.inl ⟨rfl,ha,qDE ha⟩⟩
  rcases h with rfl | ⟨t,rfl⟩
  ·exact zB _ _
  ·exact Lib.bytesWorld_below w _ t
 ·refine(Tryz.strconv_Atoi_syntax ⟨s.toArray⟩ (by show s.toArray.size≤_;simp;omega) (by first | simpa using ha | exact ha) e2 w hsy1 hsy2).mono ?_;rintro e w' ⟨N,rfl,_,_,hb⟩;exact⟨_,_,rfl,hb,.inr ⟨⟨_,_,rfl⟩,fun v h=>by rw[ha] at h;cases h⟩⟩
 ·refine(Tryz.strconv_Atoi_range ⟨s.toArray⟩ (by show s.toArray.size≤_;simp;omega) (by simpa using ha) e3 w hrg1 hrg2).mono ?_;rintro e w' ⟨N,rfl,_,_,hb⟩;exact⟨_,_,rfl,hb,.inr ⟨⟨_,_,rfl⟩,fun v h=>by rw[ha] at h;cases h⟩⟩
theorem qKx {d rest s:List UInt8}(hc:cutAt 58 s=some (d,rest))(h:∀ n:Nat,¬ (Lib.atoiAll d=.ok (n:Int)∧d.length≤9∧Lib.itoa (n:Int)=d)):vY s=none:=by
 unfold vY;rw[hc];simp only
 cases hn:qI d 9 with
 | none=>rfl
 | some n=>exact absurd ((wV d 9 (by omega) n).1 hn) (h n)
theorem qNS (s:List UInt8)(hs:s.length≤4000000)(w:World)(hv:LibVars w) :
  Calls Tryz.prog 201 #[.string ⟨s.toArray⟩] w fun e w'=>Below w.heap.size w w'∧qN4 (vY s) e:=by
 have HV:=Hh hv;have HM:=Hh hv.max
 cases hc:cutAt 58 s with
 | none =>
  have HX:=Hh (show vY s=none by unfold vY;rw[hc]);have HCUT:=Hh (pS 58 hc hs w HM.o);have HAT:=Hh (fun (W:World) (hb:Below w.heap.size w W)=>qHt s hs W (HV.o.later hb));generalize vY s=o at HX ⊢;clear hc hv;go_enter Tryz.func201,Tryz.ntmps201;go_wp2_with (first
   | (go_at_call 72;refine HCUT.o.mono ?_;rintro ev w1 ⟨rfl,hb1⟩;have HB1:=Hh hb1;clear hb1)
   | (go_at_call 95;refine(HAT.o w1 HB1.o).mono ?_;rintro ev w2 ⟨n2,er2,rfl,hb2,hm2⟩;have HB2:=Hh (HB1.o.trans (hb2.mono HB1.o.size));clear hb2 hm2))
  go_ret2;refine⟨HB2.o,_,_,rfl,?_⟩;rw[HX.o]
 | some q =>
  obtain⟨d,rest⟩:=q;have hp:=qBX 58 hc;have hsl:s.length=d.length+(rest.length+1):=by rw[hp];simp
  have HCUT:=Hh (gU 58 hc hs w HM.o);have HNO:=Hh (qKx hc);have HYS:=Hh (fun (n:Nat) (hn:qI d 9=some n)=>(show vY s=if 20000<n∨rest.length<n+2∨(rest.drop n).take 2≠[10,46] then none else some (rest.take n) from by unfold vY;rw[hc];simp only[hn]));have HAT:=Hh (fun (W:World) (hb:Below w.heap.size w W)=>qHt d (by omega) W (HV.o.later hb));generalize vY s=o at HNO HYS ⊢;clear hc hv hp;have HP:=Hh HV.o.pow;have HIT:=Hh (fun (n:Nat) (hbig:(n:Int)≤9223372036854775807) (w2:World) (hb:Below w.heap.size w w2)=>(show Calls Tryz.prog 64 #[.int .i64 n] w2 fun e w'=>e=.returned (.string ⟨(Lib.itoa (n:Int)).toArray⟩)∧Below w2.heap.size w2 w' from (Tryz.strconv_Itoa n (by omega) hbig w2 (qCj HP.o hb)).mono (by
   rintro e w' ⟨rfl,k,os,rfl⟩
   exact⟨rfl,qBH (Below.drewN (zB _ w2) k) (zo _) os⟩)))
  go_enter Tryz.func201,Tryz.ntmps201;go_upto_region 3 with (first
   | (go_at_call 72;refine HCUT.o.mono ?_;rintro ev w1 ⟨rfl,hb1⟩;have HB1:=Hh hb1;clear hb1)
   | (go_at_call 95;refine(HAT.o w1 HB1.o).mono ?_;rintro ev w2 ⟨n2,er2,rfl,hb2,hm2⟩;have HB2:=Hh (HB1.o.trans (hb2.mono HB1.o.size));clear hb2))
  rcases hm2 with ⟨rfl,ha,hle⟩ | ⟨⟨te,pe,rfl⟩,hno⟩
  case inr =>
   have HN:=Hh (HNO.o fun n h=>hno _ h.1);clear hno;go_wp2;go_ret2;refine⟨HB2.o,_,_,rfl,?_⟩;rw[HN.o]
  have HA:=Hh ha;clear ha;by_cases h6:d.length≤9
  case neg =>
   have HN:=Hh (HNO.o fun n h=>h6 h.2.1);have i6:¬ (d.length:Int)≤9:=by omega
   clear h6;go_wp2;go_ret2;refine⟨HB2.o,_,_,rfl,?_⟩;rw[HN.o]
  have i6:(d.length:Int)≤9:=by omega
  by_cases h0:0≤n2
  case neg =>
   have HN:=Hh (HNO.o fun n h=>by
    have h1:=h.1
    rw[HA.o] at h1
    injection h1 with h1
    exact h0 (by omega))
   clear h6;go_wp2;go_ret2;refine⟨HB2.o,_,_,rfl,?_⟩;rw[HN.o]
  obtain⟨n,rfl⟩:=Int.eq_ofNat_of_zero_le h0;have HITn:=Hh (HIT.o n hle _ HB2.o);by_cases hi:Lib.itoa (n:Int)=d
  case neg =>
   have HN:=Hh (HNO.o fun m h=>by
    have h1:=h.1
    rw[HA.o] at h1
    injection h1 with h1
    exact hi (by rw[h1];exact h.2.2))
   have hq:(Lib.itoa (n:Int)==d)=false:=by simpa using hi
   clear h6 hi HIT;generalize Lib.itoa (n:Int)=t at *;go_wp2_with (first
    | (go_at_call 64;refine HITn.o.mono ?_;rintro ev w3 ⟨rfl,hb3⟩;have HB3:=Hh (HB2.o.trans (hb3.mono HB2.o.size));clear hb3)
    | fail)
   go_ret2;refine⟨HB3.o,_,_,rfl,?_⟩;rw[HN.o]
  have HN:=Hh (HYS.o n ((wV d 9 (by omega) n).2 ⟨HA.o,h6,hi⟩));have hq:(Lib.itoa (n:Int)==d)=true:=by simpa using hi
  clear h6 hi HIT HYS HNO HA;generalize Lib.itoa (n:Int)=t at *;by_cases b1:20000<n
  ·rw[zM1 (.inl b1)] at HN;have j1:(20000:Int)<(n:Int):=by omega
   clear b1;go_wp2_with (first
    | (go_at_call 64;refine HITn.o.mono ?_;rintro ev w3 ⟨rfl,hb3⟩;have HB3:=Hh (HB2.o.trans (hb3.mono HB2.o.size));clear hb3)
    | fail)
   go_ret2;refine⟨HB3.o,_,_,rfl,?_⟩;rw[HN.o]
  have j1:(n:Int)≤20000:=by omega
  by_cases b2:rest.length<n+2
  ·rw[zM1 (.inr (.inl b2))] at HN;have j2:(rest.length:Int)<(n:Int)+2:=by omega
   clear b2;go_wp2_with (first
    | (go_at_call 64;refine HITn.o.mono ?_;rintro ev w3 ⟨rfl,hb3⟩;have HB3:=Hh (HB2.o.trans (hb3.mono HB2.o.size));clear hb3)
    | fail)
   go_ret2;refine⟨HB3.o,_,_,rfl,?_⟩;rw[HN.o]
  have j2:¬ (rest.length:Int)<(n:Int)+2:=by omega
  have j3:(n:Int)+2≤(rest.length:Int):=by omega
  have j4:(n:Int)≤(rest.length:Int):=by omega
  have HXE:=Hh (show (rest.take (n+2)).drop n=(rest.drop n).take 2 by rw[List.drop_take,show n+2-n=2 by omega]);have hx1:(⟨rest.toArray⟩:ByteArray).extract n (n+2)=⟨((rest.take (n+2)).drop n).toArray⟩:=qEH rest n (n+2);by_cases b3:(rest.drop n).take 2=[10,46]
  ·rw[zL1 (fun h=>by rcases h with h | h | h;exact b1 h;exact b2 h;exact h b3)] at HN;rw[HXE.o,b3] at hx1;clear b1 b2 b3 HXE;go_wp2_with (first
    | (go_at_call 64;refine HITn.o.mono ?_;rintro ev w3 ⟨rfl,hb3⟩;have HB3:=Hh (HB2.o.trans (hb3.mono HB2.o.size));clear hb3)
    | fail)
   go_ret2;refine⟨HB3.o,_,_,rfl,?_⟩;rw[HN.o];exact⟨rfl,yN rest n⟩
  ·rw[zM1 (.inr (.inr b3))] at HN;rw[HXE.o] at hx1;have hx2:((rest.drop n).take 2==[10,46])=false:=by rw[zG1];exact b3
   clear b1 b2 b3 HXE;generalize (rest.drop n).take 2=two at *;go_wp2_with (first
    | (go_at_call 64;refine HITn.o.mono ?_;rintro ev w3 ⟨rfl,hb3⟩;have HB3:=Hh (HB2.o.trans (hb3.mono HB2.o.size));clear hb3)
    | fail)
   go_ret2;refine⟨HB3.o,_,_,rfl,?_⟩;rw[HN.o]
theorem qOb {B:Nat}{e:TypeId}{k:Nat}{v:Value}{n:Nat}{xs:List Value}{w w':World}(h:w.ownsRow B e k v n xs)(hb:Below w.heap.size w w'):w'.ownsRow B e k v n xs :=
 h.kept (row:=none) ⟨hb.os,hb.tape,hb.output,hb.size,fun j hj _=>hb.block j hj⟩ (by cases hv:v.ownBlock<;>simp)
theorem qIP {w:World}{O:Nat→Prop}{A:Option Addr}{n cap m:Nat}{xs:List Value}(h:QueueAt w O A n cap xs)(hm:m≤n):QueueAt w O A m m (xs.take m):=by
 have hl:=h.len;obtain⟨b,off,hc,h2,h3⟩:=h;have hle:=hc.le;exact⟨b,off,⟨zo _,fun h0=>hc.addr (by omega),fun h0=>hc.lt (by omega),by rw[List.length_take];omega,fun j u hu=>hc.olds j u (by
  rw[List.getElem?_take] at hu
  split at hu
  ·exact hu
  ·cases hu),fun j hj=>by omega⟩,fun h0=>h2 (by omega),by omega⟩
theorem qFx {w:World}{O:Nat→Prop}{A:Option Addr}{cap:Nat}{l:List UInt8}(h:QueueAt w O A l.length cap (oJ l)) :
  (convert 89 9 (.slice A l.length cap)).run Tryz.prog w=.ok (.string ⟨l.toArray⟩) w:=by
 obtain⟨b,off,hc,_,_⟩:=h;have hle:=hc.le
 cases A with
 | none =>
  have h0:l=[]:=by
   rcases Nat.eq_zero_or_pos cap with h | h
   ·exact zH (by omega)
   ·exact absurd (hc.addr h) (by simp)
  subst h0;rw[run_convert_bytes_string w 89 9 5 none _ cap Tryz.underlying89 Tryz.underlying5 Tryz.underlying9];simp[Conv.bytesToString];rfl
 | some a =>
  refine run_convert_bytes_back w 89 9 5 a cap l Tryz.underlying89 Tryz.underlying5 Tryz.underlying9 fun j hj=>?_
  have h0:=hc.addr (by omega);injection h0 with h0
  subst h0;have e1:(⟨b,off,none⟩:Addr).add j=⟨b,off+j,none⟩:=by unfold Addr.add;split<;>simp_all
  rw[e1];refine hc.olds j _ ?_;simp[byteCells,hj]
def qMI (w:World)(r:List (List UInt8)×Nat)(e:Ending)(w':World):Prop :=
 ∃ (A:Option Addr) (cap:Nat),e=.returned (.tuple #[.slice A r.1.length cap,.int .i64 r.2])∧w'.ownsRow w.heap.size 9 1 (.slice A r.1.length cap) r.1.length (r.1.map encStr)∧Below w.heap.size w w'
structure RdSt (w wr:World)(s:List UInt8)(at_:Nat)(out:List (List UInt8))(v:Value):Prop where
 below:Below w.heap.size w wr
 up:ReadUp s at_ out
 row:wr.ownsRow w.heap.size 9 1 v out.length (out.map encStr)
 few:out.length≤at_
theorem qMB (s:List UInt8)(hs:s.length≤2000000)(w:World)(hv:LibVars w) :
  Calls Tryz.prog 148 #[.string ⟨s.toArray⟩] w (qMI w (qU (s.length+1) s)):=by
 have HV:=Hh hv;obtain⟨res,hres⟩:∃ res,res=qU (s.length+1) s:=⟨_,rfl⟩;rw[← hres];have HRES:=Hh hres;clear hv hres;obtain⟨i0,hi,hz0,hz1,hz2⟩:=pO;have Hi:=Hh hi;have Hz0:=Hh hz0;have Hz1:=Hh hz1;have Hz2:=Hh hz2;clear hi hz0 hz1 hz2;go_enter Tryz.func148,Tryz.ntmps148;go_wp2_with fail
 go_loopw [4,5] (fun v a wr=>∃ (at_:Nat) (out:List (List UInt8)),a=.int .i64 at_∧Hg (RdSt w wr s at_ out v)) (fun _ a _=>s.length-(intOf a).toNat)
 case atStart=>exact⟨0,[],rfl,Hh ⟨zB _ _,qFO s,zF1 _ _ _ _,zo _⟩⟩
 case round =>
  obtain⟨at_,out,rfl,HS⟩:=hrel;have hle:=HS.o.up.le;have hfew:=HS.o.few;have i1:(at_:Int)≤(s.length:Int):=by omega
  have i2:(0:Int)≤(at_:Int):=by omega
  have hon:=qNS (s.drop at_) (by rw[List.length_drop];omega) wr (HV.o.later HS.o.below);rw[← extract_drop] at hon
  cases ho:vY (s.drop at_) with
  | none =>
   rw[ho] at hon;have HON:=Hh hon;have HEND:=Hh (show res=(out,at_) from HRES.o.trans (HS.o.up.done ho));obtain⟨A3,c3,e3⟩:=Stl.owns_slice _ HS.o.row;subst e3;clear hon ho;go_wp2_with (go_at_call 201;refine HON.o.mono ?_;rintro ev w2 ⟨hb2,a2,is2,rfl,rfl⟩;have HB2:=Hh hb2;clear hb2);go_ret2;rw[HEND.o];exact⟨A3,c3,rfl,qOb HS.o.row HB2.o,HS.o.below.trans (HB2.o.mono HS.o.below.size)⟩
  | some r =>
   rw[ho] at hon;have HON:=Hh hon;obtain⟨hup,hat⟩:=HS.o.up.more ho;have HUP:=Hh hup;have hpos:=qBD r;have hrl:r.length≤(record r).length:=by unfold record;simp only[zP,zQ];omega
   have HRE:=Hh (fun (W:World) (hb:Below w.heap.size w W)=>qDF r (by omega) W (HV.o.later hb));have HO:=Hh HS.o.row;clear hon ho hup;generalize record r=rec at *;go_upto_region 6 with (go_at_call 201;refine HON.o.mono ?_;rintro ev w2 ⟨hb2,a2,is2,rfl,rfl,rfl⟩;have HB2:=Hh (HS.o.below.trans (hb2.mono HS.o.below.size));have HO2:=Hh ((qOb HO.o hb2).alloc (.cells #[.string ⟨r.toArray⟩] 9));clear hb2);have HB3:=Hh (HB2.o.alloc HB2.o.size (.cells #[.string ⟨r.toArray⟩] 9));go_wp2_with (first
    | (at_builtin;refine Stl.wpList_app _ rfl _ _ 22 rfl w.heap.size 9 i0 (.string ByteArray.empty) 1 16 Tryz.underlying22 Hi.o Hz0.o Hz1.o Hz2.o rfl (by decide) u4 out.length _ rfl HO2.o (some ⟨w2.heap.size,0,none⟩) 1 1 [.string ⟨r.toArray⟩] rfl rfl (fun h=>by cases h) (jD _ _ _) (by simp[Value.oneCell']) (by unfold maxLen;omega) (by omega) (zq HB2.o.size (by simp)) ?_;intro A7 c7 w7 hown7 hgr7 hat7;have HO7:=Hh hown7;have HB7:=Hh (HB3.o.grown hgr7 HB3.o.size (fun k hk=>(HO2.o.lt k hk).1));clear hown7 hgr7 hat7)
    | (go_at_call 82;refine(HRE.o _ HB7.o).mono ?_;rintro ev w8 ⟨rfl,hb8⟩;have HB8:=Hh (HB7.o.trans (hb8.mono HB7.o.size));have HO8:=Hh (qOb HO7.o hb8);clear hb8))
   go_roundw
   case rel=>exact⟨at_+rec.length,out++[r],by go_num,Hh ⟨HB8.o,HUP.o,by rw[zP,zU];exact HO8.o,by rw[zP];simp only[zQ,List.length_nil];omega⟩⟩
   case measure=>simp[intOf];omega
def qJq (w:World)(c:Nat→Col)(b:Nat)(r:List (List UInt8)×Stl.Tape)(e:Ending)(w':World):Prop :=
 ∃ (A:Option Addr) (cap:Nat) (c2:Nat→Col),e=.returned (.tuple #[.slice A r.1.length cap,.nilIface])∧Ext w w' c c2 vL∧TapeAt w' c2 b r.2∧RoStrs w' c2 A r.1
theorem qGJ (s:List UInt8):(qU (s.length+1) s).2≤s.length:=by
 have go:∀ (f:Nat) (x:List UInt8),(qU f x).2≤x.length:=by
  intro f
  induction f with
  | zero=>intro x;exact zw _
  | succ f ih =>
   intro x;unfold qU
   cases h:vY x with
   | none=>exact zw _
   | some r =>
    obtain⟨y,hy⟩:=qA9 h;have hl:x.length=(record r).length+y.length:=by rw[hy,zP]
    have h2:=ih (x.drop (record r).length);rw[List.length_drop] at h2;simp only;omega
 exact go _ _
theorem qJe (l:List UInt8)(n:Nat):oJ (l.take n)=(oJ l).take n:=by simp[byteCells,List.map_take]
section
variable {w:World}{c:Nat→Col}{b:Nat}{t:Stl.Tape}{p:Nat→Addr}
theorem TapeIn.clip {A:Option Addr}{cap:Nat}(h:TapeIn w c b t A cap)(n:Nat)(hn:n≤t.b.length):TapeIn (w.setCell ⟨b,0,none⟩ (.slice A n n)) c b { t with b:=t.b.take n } A n∧Ext w (w.setCell ⟨b,0,none⟩ (.slice A n n)) c c vL:=by
 have hb:=qH h.own 0 (.slice A n n);have hl:(t.b.take n).length=n:=by rw[List.length_take];omega
 refine⟨⟨by simp only[hl];simpa[dT] using hb,h.col,?_⟩,(Ext.refl w c vL).setCell (fun _=>by show vL (c b)=true;rw[h.col];rfl) _⟩;simp only[hl];rw[qJe];exact(qIP h.bytes hn).go (by simp[World.setCell]) fun k hk hO=>⟨zA _ ⟨b,0,none⟩ _ k (fun e=>by subst e;rw[h.col] at hO;cases hO),hO⟩
theorem qGK (h:TapeAt w c b t)(hE:Env w c p)(hb:t.b.length≤1048576) :
  Calls Tryz.prog 96 #[.pointer (some ⟨b,0,none⟩)] w (qJq w c b t.recover):=by
 have HON:=Hh (qOy h);have HRC:=Hh (show t.recover=((qU (t.b.length+1) t.b).1,⟨t.b.take (qU (t.b.length+1) t.b).2,false,none⟩) from rfl);have hle:=qGJ t.b;have HE:=Hh hE;clear h hE;generalize t.recover=res at HRC ⊢;go_enter Tryz.func96,Tryz.ntmps96;go_upto_region 4 with (go_at_call 147;refine HON.o.mono ?_;rintro ev w1 ⟨rfl,he1,A,cap,ht1⟩;have HE1:=Hh he1;have HT1:=Hh ht1;clear he1 ht1);have c0:=ce0 HT1.o.own;simp only at c0;have hcv:=qFx HT1.o.bytes;simp only at hcv;have HRD:=Hh (qMB t.b (by omega) w1 (HE.o.ext HE1.o rfl).vars);generalize qU (t.b.length+1) t.b=rr at *;have hbl:=qA HT1.o.own;have hnone:A=none→t.b.length=0∧cap=0:=fun hA=>by
  obtain⟨b',off,hc,_,_⟩:=HT1.o.bytes;have h1:=hc.le;simp only at h1
  rcases Nat.eq_zero_or_pos cap with h0 | h0
  ·exact⟨by omega,h0⟩
  ·have:=hc.addr h0;rw[hA] at this
   cases this
 have hcap:t.b.length≤cap:=(HT1.o.bytes.len).2.1;have HN:=Hh hnone;clear hnone;go_upto_region 5 with (go_at_call 148;refine HRD.o.mono ?_;rintro ev w2 ⟨A2,cap2,rfl,hr2,hb2⟩;have HR2:=Hh hr2;have HB2:=Hh hb2;clear hr2 hb2);have HT2:=Hh (HT1.o.ext (Ext.of_below HB2.o c S0) rfl rfl);clear c0 hcv;have c0:=ce0 HT2.o.own;have f0:=qC HT2.o.own 0;simp only at c0;obtain⟨h5,h6⟩:=HT2.o.clip rr.2 hle;have H5:=Hh h5;have H6:=Hh h6;clear h5 h6;have i1:(0:Int)≤(rr.2:Int):=by omega
 have i2:(rr.2:Int)≤(cap:Int):=by omega
 have HFIN:=Hh (show ∀ (e:Ending),e=.returned (.tuple #[.slice A2 rr.1.length cap2,.nilIface])→qJq w c b (rr.1,⟨t.b.take rr.2,false,none⟩) e (w2.setCell ⟨b,0,none⟩ (.slice A rr.2 rr.2)) from fun e he=>by
  subst he
  have hsz:=HB2.o.size
  have e1:Ext w1 w2 c (fun k=>if k<w1.heap.size then c k else .ro) S0:=(Ext.of_below HB2.o c S0).recolor fun k hk _=>zM1 hk
  have hin:=HT1.o.ext e1 rfl rfl
  obtain⟨h7,h8⟩:=hin.clip rr.2 hle
  refine⟨A2,cap2,_,rfl,(HE1.o.trans (e1.mono (fun _ _=>rfl))).trans h8,⟨A,rr.2,h7⟩,fun hn=>?_⟩
  rcases HR2.o.2 with ⟨_,h0⟩ | ⟨g,cp,cur,e2,hge,hg,_⟩
  ·exact absurd (zR.1 h0) hn
  ·injection e2 with e3 e4 e5
   subst e3 e5
   have hgl:=qA hg
   refine⟨g,0,rfl,by simpa[World.setCell] using hgl,zL1 (by omega),fun j x hx=>?_⟩
   have hj:=(zM.1 hx).1
   have hgb:g≠b:=by omega
   have hcell:w2.cell? ⟨g,j,none⟩=(rr.1.map encStr)[j]?:=HR2.o.cellAt j (by simp only at hj;omega)
   rw[zv,zD1 (a:=⟨g,j,none⟩) (zA w2 ⟨b,0,none⟩ _ g hgb),hcell,zN,hx]
   rfl)
 cases A with
 | none =>
  obtain⟨h0,h1⟩:=HN.o rfl;have h2:rr.2=0:=by omega
  obtain⟨r1,r2⟩:=rr;simp only at h2;subst h1 h2;clear HN h0;simp only at *;go_wp2;go_ret2;rw[HRC.o];exact HFIN.o _ rfl
 | some a =>
  clear HN;go_wp2;go_ret2;rw[HRC.o];exact HFIN.o _ rfl
end
def oG:Col→Bool:=fun y=>decide (y=.dead)
def jU (w:World)(d:Nat→Col):Nat→Col:=fun k=>if k<w.heap.size then d k else .dead
section
variable {w w2:World}{c c2 d d2:Nat→Col}
theorem StAt.extB {S:Col→Bool}{b tp:Nat}{p:Nat→Addr}{s:Sto}{t:Stl.Tape}(h:StAt w c b tp p s t)(e:Ext w w2 c c2 S)(h0:S .ro=false)(h1:∀ x,oY x=true→S x=false)(h2:S .tape=false)(h3:S .tapeL=false):StAt w2 c2 b tp p s t :=
 ⟨h.sto.ext e h0 h1,h.tape.ext e h2 h3,h.env.ext e h0⟩
theorem StAt.dead {b tp:Nat}{p:Nat→Addr}{s:Sto}{t:Stl.Tape}(h:StAt w c b tp p s t)(e:Ext w w2 c c2 oG):StAt w2 c2 b tp p s t :=
 h.extB e rfl (fun x hx=>by cases x<;>first | rfl | (cases hx)) rfl rfl
end
section
variable {w w2:World}{c c2 d:Nat→Col}
theorem qJ2 (w:World)(c:Nat→Col):Ext w w c (kDo c) oD:=(Ext.refl w c oD).recolor fun _ _ hs=>qHA hs
end
end Go.Proofs.YtbmkaekimccdgaaGreatDoor
