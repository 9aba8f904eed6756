/- TopFormat, part 11 of the proof: TSync TSetQ TOn TFrom TPool TRuns TRange. No condition. -/
import Derived.RangeFuncNested
import Derived.Test.YtchbedbmjiabgaaGreatDoorZ10
set_option linter.all false
set_option maxHeartbeats 16000000
set_option maxRecDepth 100000
namespace Go.Proofs.YtchbedbmjiabgaaGreatDoor
open Go.RowKit Go.Proofs.Tryz
theorem wV {n ml ms k g:Nat} {wa:Option Addr} {wc:Nat} {wr_ sy:Int} {w:World} (h:w.heap[g]?=some (rowD n ml (.slice wa k wc) ms true 0 wr_ sy)):
  Calls prog 54 #[.pointer (some ⟨g,0,none⟩)] w λx w'=>x= .returned (.int .i64 17)∧w'.heap[g]?=some (rowD n ml (.slice wa k wc) ms false (-1) wr_ sy)∧Chg (λj=>j=g) w w':=by have DY:=Hd (mX (by decide) (by decide) h);rw [show decide ((0:Int)≠0)=false from rfl,bh rfl] at DY;obtain ⟨c0,c1,c2,c3,c4,c5,c6,c7, -⟩:=dg h;clear h;go_enter func54,ntmps54;go_wp2_with fail;refine DY.out.mono ?_;rintro _ w1 ⟨rfl,hr,hc⟩;have HR:=Hd hr;have HC:=Hd hc;clear hr hc;go_wp2_with fail;go_ret;exact ⟨rfl,HR.out,HC.out⟩
theorem zS (ws:List (Int×List UInt8)) {n ml ms N N2 k g:Nat} {wa:Option Addr} {wc:Nat} {al wr_ sy:Int} {w:World} {f f2:Int→Option Value} (h:w.heap[g]?=some (rowD n ml (.slice wa k wc) ms true al wr_ sy)) (hO:OR eWr w wa wc k (fm ws)) (hl:MpI w ml N f) (hs:MpI w ms N2 f2) (hml:ml≠ms) (hN:N+k<maxLen) (hkb:k≤1000000) (hk:ws.length=k) (hb:∀ x∈ws,x.2.length=512) (hi:∀ x∈ws,(Lit.int .i64 x.1).wf=true) (hal: -1≤al) (hal2:al≤9223372036854775807) (hsy:0≤sy) (hsy2:sy≤1000000000000) (haz:al≠0):
  Calls prog 54 #[.pointer (some ⟨g,0,none⟩)] w λx w'=>x= .returned (.int .i64 0)∧w'.heap[g]?=some (rowD n ml (.slice none 0 0) ms true (if 0<al then al-1 else al) wr_ (sy+1))∧MpI w' ml (N+k) (setl f ws)∧MpI w' ms 0 (λ_=>none)∧Chg (λj=>j=g∨j=ml∨j=ms) w w':=by have DY:=Hd (mX hal hal2 h);rw [show decide (al≠0)=true from bp haz] at DY;simp only [bg haz] at DY;obtain ⟨al2,hal3⟩:∃ x,(if 0<al then al-1 else al)=x:=⟨_,rfl⟩;rw [hal3] at DY;simp only [hal3];have Cv:=Hd λw1 (hc:Chg (λj=>j=g) w w1) (hr:w1.heap[g]?=some (rowD n ml (.slice wa k wc) ms true al2 wr_ sy))=>su ws hr (hO.chg hc (λj e e2=>neDW hO h (by rw [e,show j=g from e2]))) (hl.chg hc (λe=>ey hl h e)) (hs.chg hc (λe=>ey hs h e)) hml hN hkb hk hb hi;have HNM:=Hd (And.intro (ey hl h) (ey hs h));obtain ⟨c0,c1,c2,c3,c4,c5,c6,c7, -⟩:=dg h;have hwp:IntKind.i64.wrap (sy+1)=sy+1:=bD _ (by omega);clear h hO hl hs hml hN hk hb hi hal3;go_enter func54,ntmps54;go_wp2_with fail;refine DY.out.mono ?_;rintro _ w1 ⟨rfl,hr,hc⟩;have HC:=Hd hc;have Dn:=Hd (Cv.out w1 hc hr);clear hr hc c0 c1 c2 c3 c4 c5 c6 c7;go_wp2_with fail;refine Dn.out.mono ?_;rintro _ w2 ⟨rfl,hr,hm1,hm2,hc⟩;have HR:=Hd hr;have EZ:=Hd hm1;have CS:=Hd hm2;have Bx:=Hd hc;obtain ⟨c0,c1,c2,c3,c4,c5,c6,c7,fz⟩:=dg hr;have f7:=fz 7;clear hr hm1 hm2 hc fz;go_wp2_with fail;go_ret;exact ⟨rfl,setD (i:=7) HR.out (.int .i64 (sy+1)),EZ.out.chg (af w2 ⟨g,7,none⟩ _) (λe=>HNM.out.1 e),CS.out.chg (af w2 ⟨g,7,none⟩ _) (λe=>HNM.out.2 e),((HC.out.mono (G:=λj=>j=g∨j=ml∨j=ms) (λ_ _ e=> .inl e)).trans Bx.out (λ_ _ e=>e)).setCell ⟨g,7,none⟩ _ (λ_=> .inl rfl)⟩
def setQ (f:Int→Option Value) (q:Nat→Bool) (ws:List (Int×List UInt8)):Nat→Int→Option Value
 |0=>f
 |j+1=>match ws[j]? with
  |some x=>if q j then upd (setQ f q ws j) x.1 (kept x.2) else setQ f q ws j
  |none=>setQ f q ws j
theorem zW {f:Int→Option Value} {q:Nat→Bool} {ws:List (Int×List UInt8)} {j:Nat} {x:Int×List UInt8} (hx:ws[j]?=some x) (hq:q j=true):setQ f q ws (j+1)=upd (setQ f q ws j) x.1 (kept x.2):=by rw [setQ,hx];simp [hq]
theorem setQ_no {f:Int→Option Value} {q:Nat→Bool} {ws:List (Int×List UInt8)} {j:Nat} {x:Int×List UInt8} (hx:ws[j]?=some x) (hq:q j=false):setQ f q ws (j+1)=setQ f q ws j:=by rw [setQ,hx];simp [hq]
def RelQ (W:World) (ml N k:Nat) (q:Nat→Bool) (f:Int→Option Value) (ws:List (Int×List UInt8)) (v:Value) (wr:World):Prop:=∃ j:Nat,j≤k∧v= .int .i64 j∧MpI wr ml (N+j) (setQ f q ws j)∧Chg (λb=>b=ml) W wr
theorem sw (ws:List (Int×List UInt8)) {n ml ms N N2 k g:Nat} {wa:Option Addr} {wc:Nat} {on:Bool} {al wr_ sy:Int} {w:World} {q:Nat→Bool} {pv:Value} {f f2:Int→Option Value} (h:w.heap[g]?=some (rowD n ml (.slice wa k wc) ms on al wr_ sy)) (hO:OR eWr w wa wc k (fm ws)) (hl:MpI w ml N f) (hs:MpI w ms N2 f2) (hml:ml≠ms) (hN:N+k<maxLen) (hkb:k≤1000000) (hk:ws.length=k) (hb:∀ x∈ws,x.2.length=512) (hi:∀ x∈ws,(Lit.int .i64 x.1).wf=true) (hcl:∀ w1,Chg (λb=>b=ml) w w1→∀ j:Nat,j<k→Calls prog 20 #[.int .i64 (j:Int),pv] w1 λx w'=>x= .returned (.bool (q j))∧w1=w'):
  Calls prog 19 #[.pointer (some ⟨g,0,none⟩),.func (.func 20) #[] #[pv]] w λx w'=>x= .returned (.tuple #[])∧w'.heap[g]?=some (rowD n ml (.slice none 0 0) ms on al wr_ sy)∧MpI w' ml (N+k) (setQ f q ws k)∧MpI w' ms 0 (λ_=>none)∧Chg (λj=>j=g∨j=ml∨j=ms) w w':=by
   obtain ⟨c0,c1,c2,c3,c4,c5,c6,c7, -⟩:=dg h;go_enter func19,ntmps19;have HH:=Hd h;have HO:=Hd hO;have DJ:=Hd hk;have HN:=Hd hN;have HB:=Hd hb;have HI:=Hd hi;have HS:=Hd hs;have HL:=Hd hl;have DK:=Hd hcl;clear hcl;go_wp2_with fail;go_loopw [11] (λv wr=>RelQ w ml N k q f ws v wr) (λv _=>k-(intOf v).toNat);case atStart=>exact ⟨0,aV _,rfl,HL.out,ae _ _⟩
   case round=>
    obtain ⟨j,hj,rfl,hM,hC⟩:=hrel;have HM:=Hd hM;have HC:=Hd hC;by_cases hjk:j<k
    ·obtain ⟨x,hx⟩:∃ x,ws[j]?=some x:=⟨_,ap (by rw [DJ.out];exact hjk)⟩;have HX:=Hd hx;have HJ:=Hd hjk;have hlb:=HB.out x (aD hx);have hwi:=HI.out x (aD hx);(have hrange:∀ w2,Chg (λb=>b=ml) w w2→∃ gw,wa=some ⟨gw,0,none⟩∧w2.rangeAt gw (j*513) (cx x):=λw2 hc=>by have h9:=HO.out.chg hc (λb e e2=>lG HL.out HO.out (by rw [e,show b=ml from e2]));obtain ⟨gw,e1, -⟩:=h9.cell (j:=j*513+0) (iY HB.out hx 0 (.int .i64 x.1) rfl);refine ⟨gw,e1,λt v hv=>?_⟩;obtain ⟨g2,e2,h3, -⟩:=h9.cell (iY HB.out hx t v hv);rw [e1] at e2;cases e2;exact h3);obtain ⟨gw,rfl,hrg⟩:=hrange wr hC;have HRG:=Hd hrg;have Dx:=Hd hlb;have HWI:=Hd hwi;clear hM hC hx hrange hrg hlb;obtain ⟨xi,xb⟩:=x;go_wp2_with (first|(refine wpList_load_mid rfl 110 (.tmp 14) rfl gw (j*513) rfl (cx (xi,xb)) _ HRG.out underlying110 rfl (by rw [cX Dx.out];exact sWr) ?_)|(refine io rfl rfl ?_;intro wA hA hbA;have HA:=Hd hA;have CH:=Hd hbA;clear hA hbA)|(refine jw rfl (.tmp 5) (.tmp 15) rfl wr.heap.size rfl (0,zs 512) (xi,xb) rfl HA.out (by simp [zs]) Dx.out ?_;intro wB hB hcB;have B3:=Hd hB;have Cc:=Hd (CH.out.trans (hcB.below CH.out.size (λj e=>aS e.symm)));clear hB hcB));refine (DK.out wB ((HC.out.trans (ac (F:=λ_=>False) Cc.out) (λ_ _ f=>f.elim))) j HJ.out).mono ?_;rintro _ w2 ⟨rfl,rfl⟩;cases hq:q j with
     |true=>have HQ:=Hd hq;clear hq;have BO:=Hd ((Cc.out.block g (an (rltT HH.out) HC.out.size)).trans ((HC.out.block g (rltT HH.out) (λe=>ey HL.out HH.out e.symm)).trans HH.out));have GI:=Hd (HM.out.chg (F:=λ_=>False) (ac Cc.out) (λf=>f));have hc0:wB.cell? ⟨wr.heap.size,0,none⟩=some (.int .i64 xi):=bd _ _ 0 _ _ _ B3.out;have GT:=Hd (show wB.rangeAt wr.heap.size 1 (bZ xb) from λt v hv=>by rw [bd _ _ _ _ _ _ B3.out];simpa [cx,Nat.add_comm 1 t] using hv);have G5:=Hd (nK g ml (N+j) xi xb (setQ f q ws j) wB (dg BO.out).2.1 GI.out (bQ (Nat.add_le_add_left (Nat.le_of_lt HJ.out) N) HN.out) HWI.out Dx.out);go_wp2_with (first|(refine wpList_load_mid rfl 49 (.tmp 22) rfl wr.heap.size 1 rfl (bZ xb) _ GT.out uBlk rfl (by rw [b7,Dx.out];exact sBlk) ?_));refine G5.out.mono ?_;rintro _ w3 ⟨rfl,hM3,hC3⟩;have EI:=Hd hM3;have BX:=Hd hC3;clear hM3 hC3 hc0;go_wp2_with fail;go_roundw;(case rel=>refine ⟨j+1,HJ.out,by go_num,?_,(HC.out.trans (ac (F:=λ_=>False) Cc.out) (λ_ _ f=>f.elim)).trans BX.out (λ_ _ e=>e)⟩;rw [zW HX.out HQ.out];exact EI.out);case measure=>exact kG HJ.out
     |false=>have HQ:=Hd hq;have GI:=Hd (HM.out.chg (F:=λ_=>False) (ac Cc.out) (λf=>f));clear hq;go_wp2_with fail;go_roundw;(case rel=>refine ⟨j+1,HJ.out,by go_num,?_,HC.out.trans (ac (F:=λ_=>False) Cc.out) (λ_ _ f=>f.elim)⟩;rw [setQ_no HX.out HQ.out];exact GI.out.up (Nat.le_succ _));case measure=>exact kG HJ.out
    ·(obtain rfl:j=k:=by omega);have HGw:=Hd ((HC.out.block g (rltT HH.out) (λe=>ey HL.out HH.out e.symm)).trans HH.out);obtain ⟨c0,c1,c2,c3,c4,c5,c6,c7,fz⟩:=dg HGw.out;have f2:=fz 2;have hE:=setD (i:=2) HGw.out (.slice none 0 0);have HE:=Hd (show (wr.setCell ⟨g,2,none⟩ (.slice none 0 0)).heap[g]?=some (rowD n ml (.slice none 0 0) ms on al wr_ sy) from hE);have Gg:=Hd ((HS.out.chg HC.out (λe=>hml e.symm)).chg (af wr ⟨g,2,none⟩ (.slice none 0 0)) (λe=>ey HS.out HH.out e));have GH:=Hd (hM.chg (af wr ⟨g,2,none⟩ (.slice none 0 0)) (λe=>ey HL.out HH.out e));have HCw:=Hd ((hC.mono (G:=λb=>b=g∨b=ml∨b=ms) (λ_ _ e=> .inr (.inl e))).setCell ⟨g,2,none⟩ (.slice none 0 0) (λ_=> .inl rfl));have HNG:=Hd (show ms≠g from λe=>ey HS.out HH.out e);have Gh:=Hd hml;clear hM hC hE fz;go_wp2_with (first|(refine nP rfl (.tmp 32) 51 _ rfl underlying51 rfl Gg.out ?_;intro w9 hM9 hC9));go_end0;refine ⟨rfl,(hC9.block g (rltT HE.out) (λe=>HNG.out e.symm)).trans HE.out,?_,hM9,HCw.out.trans hC9 (λ_ _ e=> .inr (.inr e))⟩;have h8:=GH.out.chg hC9 (λe=>Gh.out e);exact h8
def BoolsAt (w:World) (a:Option Addr) (bs:List Bool):Prop:=bs=[]∨∃ b off,a=some ⟨b,off,none⟩∧b<w.heap.size∧∀ i v,bs[i]?=some v→w.cell? ⟨b,off+i,none⟩=some (.bool v)
theorem on1_any (j p:Nat) (bs:List Bool) {a:Option Addr} {c:Nat} {w:World} (hp:w.cell? ⟨p,0,none⟩=some (.slice a bs.length c)) (hb:BoolsAt w a bs):
  Calls prog 20 #[.int .i64 (j:Int),.pointer (some ⟨p,0,none⟩)] w λx w'=>x= .returned (.bool (bs.getD j false))∧w=w':=by
   by_cases hj:j<bs.length
   ·rcases hb with rfl|⟨b,off,rfl,h2,h3⟩;cases hj
    ·have hc:=h3 j (bs.getD j false) (by rw [au,ap hj];rfl);obtain ⟨m,hm⟩:∃ m,bs.length=m:=⟨_,rfl⟩;rw [hm] at hp hj;generalize bs.getD j false=v at*;clear h3 hm;go_enter func20,ntmps20;go_wp2_with fail;go_ret;exact ⟨rfl,rfl⟩
   ·(have hv:bs.getD j false=false:=by rw [au,aP (by omega)];rfl);rw [hv];obtain ⟨m,hm⟩:∃ m,bs.length=m:=⟨_,rfl⟩;rw [hm] at hp hj;clear hb hv hm;go_enter func20,ntmps20;go_wp2_with fail;go_ret;exact ⟨rfl,rfl⟩
theorem pu {w:World} {b n:Nat} {f:Int→Option Value} {j g:Nat} {v:Value} (h:MpI w b n f) (hc:w.cell? ⟨g,j,none⟩=some v):g≠b:=by rintro rfl;obtain ⟨D,⟨es,clock,hh, -⟩, -⟩:=h;simp [World.cell?,hh] at hc
theorem BoolsAt.chg {F:Nat→Prop} {w w':World} {a:Option Addr} {bs:List Bool} (h:BoolsAt w a bs) (hc:Chg F w w') (hn:∀ b j v,w.cell? ⟨b,j,none⟩=some v→¬ F b):BoolsAt w' a bs:=by rcases h with h|⟨b,off,h1,h2,h3⟩;exact .inl h;refine .inr ⟨b,off,h1,an h2 hc.size,λi v hv=>?_⟩;have h4:=h3 i v hv;exact (hc.cell (p:=⟨b,off+i,none⟩) h2 (hn b _ _ h4)).trans h4
theorem don_any (ws:List (Int×List UInt8)) (bs:List Bool) {n ml ms N N2 k g:Nat} {wa:Option Addr} {wc:Nat} {al wr_ sy:Int} {w:World} {f f2:Int→Option Value} {a:Option Addr} {c:Nat} (h:w.heap[g]?=some (rowD n ml (.slice wa k wc) ms false al wr_ sy)) (hO:OR eWr w wa wc k (fm ws)) (hl:MpI w ml N f) (hs:MpI w ms N2 f2) (hml:ml≠ms) (hN:N+k<maxLen) (hkb:k≤1000000) (hk:ws.length=k) (hb:∀ x∈ws,x.2.length=512) (hi:∀ x∈ws,(Lit.int .i64 x.1).wf=true) (hbs:BoolsAt w a bs):
  Calls prog 10 #[.pointer (some ⟨g,0,none⟩),.slice a bs.length c] w λx w'=>x= .returned (.tuple #[])∧w'.heap[g]?=some (rowD n ml (.slice none 0 0) ms true al wr_ sy)∧MpI w' ml (N+k) (setQ f (λj=>bs.getD j false) ws k)∧MpI w' ms 0 (λ_=>none)∧Chg (λj=>j=g∨j=ml∨j=ms) w w':=by have ha:=bY w (.cells #[.slice a bs.length c] 25);have hn:=az w (.cells #[.slice a bs.length c] 25);have hA:Chg (λ_=>False) w (w.alloc (.cells #[.slice a bs.length c] 25)):=ac ha;have hG:=(ha.block g (rltT h)).trans h;have hL:=hl.chg hA (λe=>e);have Cv:=Hd (sw (q:=λj=>bs.getD j false) (pv:= .pointer (some ⟨w.heap.size,0,none⟩)) ws hG (hO.chg hA (λ_ _ e=>e)) hL (hs.chg hA (λe=>e)) hml hN hkb hk hb hi (λw1 hc j hj=>on1_any j w.heap.size bs (c:=c) ((hc.cell (p:=⟨w.heap.size,0,none⟩) (rltT hn) (λe=>pu hL (bd _ _ 0 _ _ _ hn) e)).trans (bd _ _ 0 _ _ _ hn)) ((hbs.chg hA (λ_ _ _ _ e=>e)).chg hc (λb j v hv e=>pu hL hv e))));have HNM:=Hd (And.intro (ey hl h) (ey hs h));have HA:=Hd hA;obtain ⟨c0,c1,c2,c3,c4,c5,c6,c7, -⟩:=dg hG;obtain ⟨m,hm⟩:∃ m,bs.length=m:=⟨_,rfl⟩;rw [hm] at Cv HA c0 c1 c2 c3 c4 c5 c6 c7⊢;clear h hO hl hs hml hN hk hb hi hbs ha hn hA hG hL hm;go_enter func10,ntmps10;go_wp2_with fail;refine Cv.out.mono ?_;rintro _ w2 ⟨rfl,hr,hm1,hm2,hc⟩;have HR:=Hd hr;have EZ:=Hd hm1;have CS:=Hd hm2;have Bx:=Hd hc;obtain ⟨d0,d1,d2,d3,d4,d5,d6,d7,fz⟩:=dg hr;have f4:=fz 4;clear hr hm1 hm2 hc fz;go_wp2_with fail;go_end0;exact ⟨rfl,setD (i:=4) HR.out (.bool true),EZ.out.chg (af w2 ⟨g,4,none⟩ _) (λe=>HNM.out.1 e),CS.out.chg (af w2 ⟨g,4,none⟩ _) (λe=>HNM.out.2 e),((HA.out.mono (G:=λj=>j=g∨j=ml∨j=ms) (λ_ _ e=>e.elim)).trans Bx.out (λ_ _ e=>e)).setCell ⟨g,4,none⟩ _ (λ_=> .inl rfl)⟩
def W2 (w:World):World:=(w.alloc (.map #[] 0)).alloc (.map #[] 0)
def NewD (n:Nat) (w:World) (x:Ending) (w':World):Prop:=x= .returned (.pointer (some ⟨w.heap.size+2,0,none⟩))∧w'.heap[w.heap.size+2]?=some (rowD n w.heap.size (.slice none 0 0) (w.heap.size+1) true (-1) 0 0)∧MpI w' w.heap.size 0 (λ_=>none)∧MpI w' (w.heap.size+1) 0 (λ_=>none)∧Below w.heap.size w w'
theorem Ao (n:Nat) (w:World):Calls prog 15 #[.int .i64 (n:Int)] w (NewD n w):=by
 have hmm:=@run_makeMap prog;have hs1:(w.alloc (.map #[] 0)).heap.size=w.heap.size+1:=by simp
 have hs2:((w.alloc (.map #[] 0)).alloc (.map #[] 0)).heap.size=w.heap.size+2:=by simp
 unfold NewD;go_enter func15,ntmps15;go_wp2_with fail;go_ret;have hr:=az ((w.alloc (.map #[] 0)).alloc (.map #[] 0)) (rowD n w.heap.size (.slice none 0 0) (w.heap.size+1) true (-1) 0 0);rw [hs2] at hr;have b1:=bY w (.map #[] 0);have b2:=bY (w.alloc (.map #[] 0)) (.map #[] 0);have b3:=bY ((w.alloc (.map #[] 0)).alloc (.map #[] 0)) (rowD n w.heap.size (.slice none 0 0) (w.heap.size+1) true (-1) 0 0);have m1:=((MpI.made w).chg (F:=λ_=>False) (ac b2) (λf=>f)).chg (F:=λ_=>False) (ac b3) (λf=>f);have m2:=(MpI.made (w.alloc (.map #[] 0))).chg (F:=λ_=>False) (ac b3) (λf=>f);rw [hs1] at m2;exact ⟨rfl,hr,m1,m2,b1.trans ((b2.trans (b3.mono b2.size)).mono b1.size)⟩
def e8 (img:List UInt8) (j:Nat):List UInt8:=(img.drop (j*512)).take 512
def imgF (img:List UInt8):Nat→Int→Option Value
 |0=>λ_=>none
 |j+1=>upd (imgF img j) j (kept (e8 img j))
theorem lD {img:List UInt8} {n j:Nat} (h:img.length=n*512) (hj:j<n):(e8 img j).length=512:=by unfold e8;rw [aC,aL,h];have:(j+1)*512≤n*512:=Nat.mul_le_mul_right _ hj;omega
def RelF (W:World) (img:List UInt8) (n g ml ms:Nat) (v:Value) (wr:World):Prop:=∃ j:Nat,j≤n∧v= .int .i64 j∧wr.heap[g]?=some (rowD n ml (.slice none 0 0) ms true (-1) 0 0)∧MpI wr ml j (imgF img j)∧MpI wr ms 0 (λ_=>none)∧Below W.heap.size W wr
theorem splFull {bs:List UInt8} (hl:bs.length=512):splice (bZ (zs 512)) 0 (bZ bs)=bZ bs:=by unfold splice;rw [aJ,a7,bN (by rw [b7,b7,hl];decide),bC]
theorem AJ (img:List UInt8) (n:Nat) {xa:Option Addr} {xc:Nat} {w:World} (hn:8≤n) (hn2:n≤65536) (hl:img.length=n*512) (hb:Bts w xa img) (hc:n*512≤xc):
  Calls prog 5 #[.slice xa ((n*512:Nat):Nat) xc] w λx w'=>∃ g ml ms,x= .returned (.tuple #[.pointer (some ⟨g,0,none⟩),.int .i64 0])∧w'.heap[g]?=some (rowD n ml (.slice none 0 0) ms true (-1) 0 0)∧MpI w' ml n (imgF img n)∧MpI w' ms 0 (λ_=>none)∧Below w.heap.size w w'∧w.heap.size≤g∧w.heap.size≤ml∧w.heap.size≤ms∧ml≠ms:=by
   have C1:=Hd (Ao n w);(obtain ⟨xb,xo,rfl,hxb,hxc⟩:∃ b off,xa=some ⟨b,off,none⟩∧b<w.heap.size∧∀ i,i<img.length→w.cell? ⟨b,off+i,none⟩=some (.int .u8 ((img.getD i 0).toNat:Int)):=by rcases hb with rfl|h;simp at hl;omega;exact h);have Dj:=Hd hxb;have HXC:=Hd hxc;have DJ:=Hd hl;clear hxb hxc;obtain ⟨m,hm⟩:∃ m,n*512=m:=⟨_,rfl⟩;(have hq:(m:Int).tdiv 512=(n:Int):=by rw [←hm,Int.natCast_mul];exact Int.mul_tdiv_cancel _ (by decide));(have h8:¬ (n:Int)<8:=by omega);(have h9:¬ (65536:Int)<(n:Int):=by omega);(have hm2:(n:Int)*512=(m:Int):=by rw [←hm];omega);have HM:=Hd hm;rw [hm] at hc⊢;(have hmb:m≤33554432:=by omega);clear hb hl hm;go_enter func5,ntmps5;go_wp2_with fail;refine C1.out.mono ?_;rintro _ w1 ⟨rfl,hr,hm1,hm2',hb1⟩;obtain ⟨g,hg⟩:∃ g,w.heap.size+2=g:=⟨_,rfl⟩;obtain ⟨ms,hms⟩:∃ ms,w.heap.size+1=ms:=⟨_,rfl⟩;rw [hg,hms] at hr;rw [hms] at hm2';rw [hg];have HG:=Hd (And.intro hg hms);have CN:=Hd (show RelF w img n g w.heap.size ms (.int .i64 0) w1 from ⟨0,aV _,rfl,hr,hm1,hm2',hb1⟩);clear hr hm1 hm2' hb1 hg hms h8 h9 hq;go_wp2_with fail;go_loopw [27] (λv wr=>RelF w img n g w.heap.size ms v wr) (λv _=>n-(intOf v).toNat);case atStart=>exact CN.out
   case round=>
    clear CN;obtain ⟨j,hj,rfl,hr,hM,hS,hbw⟩:=hrel;have HR:=Hd hr;have GH:=Hd hM;have Gg:=Hd hS;have Bo:=Hd hbw;clear hr hM hS hbw;by_cases hjn:j<n
    ·have HJ:=Hd hjn;(have h5:j*512+512≤m:=by have:=HM.out;have:(j+1)*512≤n*512:=Nat.mul_le_mul_right _ hjn;omega);obtain ⟨jo,hjo⟩:∃ x,j*512=x:=⟨_,rfl⟩;(have hji:(j:Int)*512=(jo:Int):=by omega);have hwj:IntKind.i64.wrap (jo:Int)=(jo:Int):=bD _ (by omega);rw [hjo] at h5;have HJO:=Hd hjo;clear hjo;go_wp2_with (first|(refine ip rfl rfl ?_;intro wA hA hbA;have HA:=Hd hA;have CH:=Hd hbA;clear hA hbA));(have hj0:(0:Int)≤(jo:Int):=by omega);(have hj1:(jo:Int)≤(m:Int):=by omega);(have hj2:(jo:Int)≤(xc:Int):=by omega);(have hj3:¬ jo=xc:=by omega);(have hj4:¬ (jo:Int)=(xc:Int):=by omega);have hbl:=lD (j:=j) (by rw [DJ.out]) hjn;have CU:=Hd hbl;have HSRC:=Hd (show ∀ t v,(bZ (e8 img j))[t]?=some v→wA.drew.cell? ((⟨xb,xo+jo,none⟩:Addr).add t)=some v from λt v hv=>by (obtain ⟨x,hx,rfl⟩:∃ x,(e8 img j)[t]?=some x∧Value.int .u8 (x.toNat:Int)=v:=by simpa [bZ] using hv);(have ht:t<512:=by have:=(ar.1 hx).1;omega);(have hx2:img[jo+t]?=some x:=by unfold e8 at hx;rw [bI ht,List.getElem?_drop,HJO.out] at hx;exact hx);have h7:=HXC.out (jo+t) (ar.1 hx2).1;rw [au,hx2] at h7;rw [cN,Nat.add_assoc];exact ((CH.out.cell (p:=⟨xb,xo+(jo+t),none⟩) (an Dj.out Bo.out.size)).trans (Bo.out.cell (p:=⟨xb,xo+(jo+t),none⟩) Dj.out)).trans h7);go_still_tail 5,(by kernel_rfl);refine wpList_copy_splice rfl (.tmp 30) (.tmp 34) 24 24 rfl 5 underlying24 sz1 _ _ 512 512 (m-jo) (xc-jo) rfl rfl wr.heap.size 0 (bZ (zs 512)) 49 HA.out (bZ (e8 img j)) (by rw [b7,hbl];exact (Nat.min_eq_right (by omega)).symm) (λ_=>⟨rfl,⟨xb,xo+jo,none⟩,bg (λe=>hj3 e.symm),HSRC.out⟩) (by rw [b7,b7,hbl,zs,aH];decide) (cE _) wr.heap.size wr CH.out.drew (am _) ?_;intro wC hD hbC;have HD:=Hd (show wC.heap[wr.heap.size]?=some (.cells (bZ (e8 img j)).toArray 49) by rw [←splFull hbl];exact hD.out);have F2:=Hd hbC;have HRC:=Hd ((hbC.block g (rltT HR.out)).trans HR.out);have Ed:=Hd (GH.out.chg (F:=λ_=>False) (ac hbC) (λf=>f));have B6:=Hd (show (prog.info? 49).map (·.size)=some (bZ (e8 img j)).toArray.size by rw [bw,b7,hbl];exact sBlk);have HWF:=Hd (show (Lit.int .i64 (j:Int)).wf=true from WalkArith.wf_i64 (by omega));have G5:=Hd (nK g w.heap.size j (j:Int) (e8 img j) (imgF img j) wC (dg HRC.out).2.1 Ed.out (by unfold maxLen;omega) HWF.out hbl);clear hD hbC hbl;go_wp2_with (first|(refine wpList_load_row rfl 49 (.tmp 7) rfl wr.heap.size rfl 49 _ (0,0) _ HD.out uBlk rfl B6.out ?_));refine G5.out.mono ?_;rintro _ w9 ⟨rfl,hM9,hC9⟩;have HM9:=Hd hM9;have Ey:=Hd hC9;clear hM9 hC9;go_wp2_with fail;go_roundw;(case rel=>have b1:=Bo.out.trans (F2.out.mono Bo.out.size);exact ⟨j+1,HJ.out,by go_num,(Ey.out.block g (rltT HRC.out) (λe=>ey Ed.out HRC.out e.symm)).trans HRC.out,HM9.out,(Gg.out.chg (F:=λ_=>False) (ac F2.out) (λf=>f)).chg Ey.out (λe=>by have:=HG.out.2;omega),b1.trans (Ey.out.below b1.size (λk e=>aS e.symm))⟩);case measure=>exact kG HJ.out
    ·(obtain rfl:j=n:=by omega);go_wp2_with fail;go_ret2;exact ⟨g,w.heap.size,ms,rfl,HR.out,GH.out,Gg.out,Bo.out,by have:=HG.out.1;omega,am _,by have:=HG.out.2;omega,by have:=HG.out.2;omega⟩
theorem oZ (p r:Int) (w:World):Calls prog 64 #[.int .i64 p,.int .i64 r] w λx w'=>x= .returned (.bool (decide (1≤p∧p≤65536∧2≤r∧r<65536)))∧w=w':=by
 by_cases h1:1≤p
 ·by_cases h2:p≤65536
  ·by_cases h3:2≤r
   ·by_cases h4:r<65536
    ·rw [show decide (1≤p∧p≤65536∧2≤r∧r<65536)=true from bp ⟨h1,h2,h3,h4⟩];go_enter func64,ntmps64;go_wp2_with fail;go_ret;exact ⟨rfl,rfl⟩
    ·rw [show decide (1≤p∧p≤65536∧2≤r∧r<65536)=false from bo (λe=>h4 e.2.2.2)];go_enter func64,ntmps64;go_wp2_with fail;go_ret;exact ⟨rfl,rfl⟩
   ·rw [show decide (1≤p∧p≤65536∧2≤r∧r<65536)=false from bo (λe=>h3 e.2.2.1)];go_enter func64,ntmps64;go_wp2_with fail;go_ret;exact ⟨rfl,rfl⟩
  ·rw [show decide (1≤p∧p≤65536∧2≤r∧r<65536)=false from bo (λe=>h2 e.2.1)];go_enter func64,ntmps64;go_wp2_with fail;go_ret;exact ⟨rfl,rfl⟩
 ·rw [show decide (1≤p∧p≤65536∧2≤r∧r<65536)=false from bo (λe=>h1 e.1)];go_enter func64,ntmps64;go_wp2_with fail;go_ret;exact ⟨rfl,rfl⟩
theorem kp (k:Int) {m g:Nat} {ca:Option Addr} {cc:Nat} {w:World} (h:w.cell? ⟨g,1,none⟩=some (.slice ca m cc)):Calls prog 155 #[.pointer (some ⟨g,0,none⟩),.int .i64 k] w λx w'=>x= .returned (.bool (decide (1≤k∧k≤(m:Int))))∧w=w':=by
 by_cases h0:1≤k
 ·by_cases h1:k≤(m:Int)
  ·rw [show decide (1≤k∧k≤(m:Int))=true from bp ⟨h0,h1⟩];go_enter func155,ntmps155;go_wp2_with fail;go_ret;exact ⟨rfl,rfl⟩
  ·rw [show decide (1≤k∧k≤(m:Int))=false from bo (λe=>h1 e.2)];go_enter func155,ntmps155;go_wp2_with fail;go_ret;exact ⟨rfl,rfl⟩
 ·rw [show decide (1≤k∧k≤(m:Int))=false from bo (λe=>h0 e.1)];go_enter func155,ntmps155;go_wp2_with fail;go_ret;exact ⟨rfl,rfl⟩
theorem Af {m g:Nat} {ca:Option Addr} {cc:Nat} {w:World} (h:w.cell? ⟨g,1,none⟩=some (.slice ca m cc)):Calls prog 127 #[.pointer (some ⟨g,0,none⟩)] w λx w'=>x= .returned (.int .i64 m)∧w=w':=by go_enter func127,ntmps127;go_wp2_with fail;go_ret;exact ⟨rfl,rfl⟩
def stv (cnt:Int) (b:Bool):Int:=if 0<cnt then (if b then 4 else 3) else (if b then 2 else 1)
theorem lM (j:Nat) {m g cb co lb lo:Nat} {cc lc:Nat} {cnt:Int} {b:Bool} {w:World} (h1:w.cell? ⟨g,1,none⟩=some (.slice (some ⟨cb,co,none⟩) m cc)) (h2:w.cell? ⟨g,2,none⟩=some (.slice (some ⟨lb,lo,none⟩) m lc)) (hj:j<m) (hm:m≤65536) (hc:w.cell? ⟨cb,co+j,none⟩=some (.int .i64 cnt)) (hb:w.cell? ⟨lb,lo+j,none⟩=some (.bool b)):
  Calls prog 134 #[.pointer (some ⟨g,0,none⟩),.int .i64 ((j:Int)+1)] w λx w'=>x= .returned (.int .i64 (stv cnt b))∧w=w':=by have Cf:=Hd (kp ((j:Int)+1) h1);rw [show decide (1≤(j:Int)+1∧(j:Int)+1≤(m:Int))=true from bp ⟨by omega,by omega⟩] at Cf;(have hw:IntKind.i64.wrap ((j:Int)+1-1)=(j:Int):=by rw [show (j:Int)+1-1=(j:Int) by omega];exact bD _ (by omega));have hw2:IntKind.i64.wrap (j:Int)=(j:Int):=bD _ (by omega);unfold stv;by_cases h0:0<cnt;(focus rw [bh h0]);rotate_left;(focus rw [bg h0]);all_goals cases b;(focus rw [bg (by decide)]);rotate_left;(focus rw [bh rfl]);all_goals go_enter func134,ntmps134;go_wp2_with fail;refine Cf.out.mono ?_;rintro _ w2 ⟨rfl,rfl⟩;go_wp2_with fail;go_ret;exact ⟨rfl,rfl⟩
theorem uB (j:Nat) {m g cb co:Nat} {cc:Nat} {cnt:Int} {w:World} (h1:w.cell? ⟨g,1,none⟩=some (.slice (some ⟨cb,co,none⟩) m cc)) (hj:j<m) (hm:m≤65536) (hc:w.cell? ⟨cb,co+j,none⟩=some (.int .i64 cnt)):
  Calls prog 115 #[.pointer (some ⟨g,0,none⟩),.int .i64 ((j:Int)+1)] w λx w'=>x= .returned (.int .i64 cnt)∧w=w':=by have Cf:=Hd (kp ((j:Int)+1) h1);rw [show decide (1≤(j:Int)+1∧(j:Int)+1≤(m:Int))=true from bp ⟨by omega,by omega⟩] at Cf;have hw2:IntKind.i64.wrap (j:Int)=(j:Int):=bD _ (by omega);go_enter func115,ntmps115;go_wp2_with fail;refine Cf.out.mono ?_;rintro _ w2 ⟨rfl,rfl⟩;go_wp2_with fail;go_ret;exact ⟨rfl,rfl⟩
theorem xC (k:Int) {m g:Nat} {ca:Option Addr} {cc:Nat} {w:World} (h1:w.cell? ⟨g,1,none⟩=some (.slice ca m cc)) (hk:¬ (1≤k∧k≤(m:Int))):
  Calls prog 115 #[.pointer (some ⟨g,0,none⟩),.int .i64 k] w λx w'=>x= .returned (.int .i64 0)∧w=w':=by have Cf:=Hd (kp k h1);rw [show decide (1≤k∧k≤(m:Int))=false from bo hk] at Cf;clear hk;go_enter func115,ntmps115;go_wp2_with fail;refine Cf.out.mono ?_;rintro _ w2 ⟨rfl,rfl⟩;go_wp2_with fail;go_ret;exact ⟨rfl,rfl⟩
def RelRun0 (W:World) (v:Value) (wr:World):Prop:=v= .int .i64 0∧wr=W
theorem sA (w:World):Calls prog 133 #[.slice none 0 0] w λx w'=>x= .returned (.pointer (some ⟨w.heap.size,0,none⟩))∧w'=w.alloc (.cells #[.slice none 0 0] 318):=by
 go_enter func133,ntmps133;go_wp2_with fail;go_loopw [10] (λv wr=>RelRun0 (w.alloc (.cells #[.slice none 0 0] 318)) v wr) (λv _=>0);case atStart=>exact ⟨rfl,rfl⟩
 case round=>obtain ⟨rfl,rfl⟩:=hrel;go_wp2_with fail;go_ret;exact ⟨rfl,rfl⟩
theorem zI (k:Int) (h0:0≤k) (h1:k≤1000000) (w:World):Calls prog 174 #[.int .u64 0,.agg #[.int .i64 k,.int .i64 k]] w λx w'=>x= .returned (.int .u64 1)∧Below w.heap.size w w':=by have ha:=bY w (.cells #[.int .i64 k,.int .i64 k] 320);have hwu:IntKind.u64.wrap k=k:=IntWalk.u64_in _ (by omega);go_enter func174,ntmps174;go_wp2_with fail;go_ret;exact ⟨rfl,ha⟩
structure Turn (B:Nat) (w w':World):Prop where
 os:w'.os=w.os
 tape:w'.tape=w.tape
 output:w'.output=w.output
 size:w.heap.size≤w'.heap.size
 same:∀ (k:Nat) (o:Obj),w.heap[k]?=some o→(k<B∨o.isCells=true)→w'.heap[k]?=some o
theorem Turn.of_below {B:Nat} {w w':World} (h:Below w.heap.size w w'):Turn B w w':=
 ⟨h.os,h.tape,h.output,h.size,λk o hk _=>(h.block k (bj.1 hk).1).trans hk⟩
theorem Turn.refl (B:Nat) (w:World):Turn B w w:=⟨rfl,rfl,rfl,am _,λ_ _ h _=>h⟩
theorem Turn.trans {B:Nat} {a b c:World} (h:Turn B a b) (k:Turn B b c):Turn B a c:=⟨k.os.trans h.os,k.tape.trans h.tape,k.output.trans h.output,ao h.size k.size,λi o hi hB=>k.same i o (h.same i o hi hB) hB⟩
theorem Turn.mono {B C:Nat} {a b:World} (h:Turn C a b) (hB:B≤C):Turn B a b:=⟨h.os,h.tape,h.output,h.size,λi o hi ho=>h.same i o hi (ho.imp (λe=>an e hB) id)⟩
theorem Turn.put {B:Nat} {w:World} {l:Nat} {o:Obj} (o':Obj) (hl:w.heap[l]?=some o) (ho:o.isCells=false) (hB:B≤l):Turn B w (w.putObj l o'):=by have g:=grownBy_putObj' w l o';refine ⟨g.os,g.tape,g.output,g.size,λk x hk hx=>(g.block k (bj.1 hk).1 (λe=>?_)).trans hk⟩;cases e;rcases hx with hx|hx;omega;rw [hl] at hk;cases hk;rw [ho] at hx;cases hx
theorem Turn.row {B:Nat} {w w':World} (h:Turn B w w') {k:Nat} {cs:Array Value} {T:TypeId} {fr:Nat×Nat} (hk:w.heap[k]?=some (.cells cs T fr)):w'.heap[k]?=some (.cells cs T fr):=h.same k _ hk (.inr rfl)
theorem Turn.cell {B:Nat} {w w':World} (h:Turn B w w') {p:Addr} {v:Value} (hp:w.cell? p=some v):w'.cell? p=some v:=by
 rcases p with ⟨b,off,sp⟩;unfold World.cell? at hp⊢;simp only at hp⊢;cases hb:w.heap[b]? with
 |none=>rw [hb] at hp;simp at hp
 |some o=>
  rw [hb] at hp;cases o with
  |cells cs T fr=>rw [h.row hb];exact hp
  |_=>simp at hp
theorem Turn.below {B n:Nat} {a w w':World} (h:Turn B w w') (hb:Below n a w) (hn:n≤B) (ha:n≤a.heap.size):Below n a w':=
 ⟨h.os.trans hb.os,h.tape.trans hb.tape,h.output.trans hb.output,ao hb.size h.size,λk hk=>by
   obtain ⟨o,ho⟩:∃ o,a.heap[k]?=some o:=⟨_,Array.getElem?_eq_getElem (by omega)⟩
   rw [ho]
   exact h.same k o ((hb.block k hk).trans ho) (.inl (an hk hn))⟩
theorem Turn.or {B:Nat} {w w':World} (h:Turn B w w') {E:Elt} {oa:Option Addr} {cap n:Nat} {cs:List Value} (ho:OR E w oa cap n cs):OR E w' oa cap n cs:=by obtain ⟨h1,h2⟩:=ho.form;rcases h2 with ⟨rfl,rfl,rfl,rfl⟩|⟨g,rfl,hg,h3,h4,rest,h5,h6⟩;exact ak E w';exact OR.mk h1 h3 h4 (h.row h5) h6
def Iter {α:Type} (gf:Nat) (lb:Array Value) (encs: α→Array Value) (Fb:Nat→Prop) (xs:List α) (w:World):Prop:=
 ∀ (l:Nat) (J:Nat→World→Prop) (Jx:World→Prop) (W:World),Below w.heap.size w W→(∀ k,Fb k→k<W.heap.size)→
  (∀ j A B,J j A→Turn W.heap.size A B→J j B)→(∀ A B,Jx A→Turn W.heap.size A B→Jx B)→
  (∀ j x W1,xs[j]?=some x→J j W1→YieldAt Fence.wide 0 prog l (encs x) W1 λe W'=>(e= .returned (.bool true)∧J (j+1) W'∧Chg Fb W1 W')∨(e= .returned (.bool false)∧Jx W'∧Chg Fb W1 W'))→
  J 0 W→Calls prog gf (#[.func (.yield l) #[] #[]]++lb) W λe W'=>(∃ v,e= .returned v)∧(J xs.length W'∨Jx W')
theorem Iter.later {α:Type} {gf:Nat} {lb:Array Value} {encs: α→Array Value} {Fb:Nat→Prop} {xs:List α} {w w':World} (h:Iter gf lb encs Fb xs w) (hb:Below w.heap.size w w'):Iter gf lb encs Fb xs w':=
 λl J Jx W hW=>h l J Jx W (hb.trans (hW.mono hb.size))
def postR (Fb:Nat→Prop) (I:Nat→World→Prop) (Ix:Code→World→Prop) (j:Nat) (W:World):Exit→Act→World→Prop
 | .normal,_,W'=>Chg Fb W W'∧I j W'
 | .ret,_,W'=>Chg Fb W W'∧Ix .ret W'
 | .exit id,_,W'=>Chg Fb W W'∧Ix (.exit id) W'
 | .goto t,_,W'=>Chg Fb W W'∧Ix (.goto t) W'
 | .panic _,_,_=>False
 | .outgrown,_,_=>False
def Own2 (B:Nat) (k:Nat):Prop:=k=B∨k=B+1
theorem fM {W:World} {l:Nat} (o:Obj):Chg (λk=>k=l) W (W.putObj l o):=by have g:=grownBy_putObj' W l o;exact ⟨g.os,g.tape,g.output,g.size,λk hk hn=>g.block k hk (λe=>hn (by cases e;rfl))⟩
theorem iG {fn:Func} {tmps:Array Value} {D:Nat} {w:World} {R:Ending→World→Prop} (hD:w.heap[D]?=some (.deferred (some []))) (v:Value) (hv:(results fn tmps).run prog (w.putObj D (.deferred none))= .ok v (w.putObj D (.deferred none))) (hR:R (.returned v) (w.putObj D (.deferred none))):
  bodyPostM Fence.wide 0 prog fn R .ret {tmps:=tmps,defers:=[{target:= .collected D,args:=#[]}]} w:=by refine ⟨by simp,.inl ⟨_,_,rfl,run_takeDeferred hD,?_⟩⟩;exact ⟨_,hv,hR⟩
theorem jA {fn:Func} {tmps:Array Value} {D:Nat} {w:World} {R:Ending→World→Prop} (hD:w.heap[D]?=some (.deferred (some []))) (v:Value) (hv:(results fn tmps).run prog (w.putObj D (.deferred none))= .ok v (w.putObj D (.deferred none))) (hR:R (.returned v) (w.putObj D (.deferred none))):
 bodyPostM Fence.wide 0 prog fn R .normal {tmps:=tmps,defers:=[{target:= .collected D,args:=#[]}]} w:=iG hD v hv hR
theorem rv {α:Type} {g:Operand} {ps:Array Tmp} {assign body:Code} {Q:Exit→Act→World→Prop} {a:Act} {w:World}
  {gf:Nat} {lb:Array Value} (hg:a.eval g= .func (.func gf) #[] lb) (eg:∀ args w,(callFunc gf args).run prog w= .ok (.enter gf args) w)
  {encs: α→Array Value} (Fb:Nat→Prop) (hFb:∀ k,Fb k→k<w.heap.size) (xs:List α) (hseq:Iter gf lb encs (λk=>Fb k∨Own2 w.heap.size k) xs w) (hps:∀ x,(encs x).size=ps.size)
  (I:Nat→World→Prop) (Ix:Code→World→Prop) (hI:∀ j A A',I j A→Turn w.heap.size A A'→I j A') (hIx:∀ c A A',Ix c A→Turn w.heap.size A A'→Ix c A') (h0:I 0 w)
  (Ax:Act→ α→Act→World→Prop) (hAx:∀ x a' A A',Ax a x a' A→Turn w.heap.size A A'→Ax a x a' A')
  (hassign:∀ (l j:Nat) (x: α) (W:World) (K:Act→World→Prop),xs[j]?=some x→I j W→w.heap.size+2≤W.heap.size→(∀ a' W',Below W.heap.size W W'→I j W'→Ax a x a' W'→K a' W')→
    assign.wpIn (Fence.wide.inRound l) 0 prog (Exit.then K (λ_ _ _=>False)) {tmps:=(ps.zip (encs x)).foldl (λt (p,v)=>t.setIfInBounds p v) a.tmps,defers:=[]} W)
  (hbody:∀ (l j:Nat) (x: α) (a':Act) (W:World),xs[j]?=some x→I j W→w.heap.size+2≤W.heap.size→Ax a x a' W→body.wpIn (Fence.wide.inRound l) 0 prog (postR Fb I Ix (j+1) W) a' W)
  (hdone:∀ (W:World),I xs.length W→W.heap[w.heap.size]?=some (.deferred (some []))→Q .normal {a with defers:={target:= .collected w.heap.size,args:=#[]}::a.defers} W)
  (hstop:∀ (c:Code) (W:World),Ix c W→W.heap[w.heap.size]?=some (.deferred (some []))→c.wpIn Fence.wide 0 prog Q {a with defers:={target:= .collected w.heap.size,args:=#[]}::a.defers} W):
  (Code.rangeFunc g ps assign body).wpIn Fence.wide 0 prog Q a w:=by
   refine wpIn_rangeFunc ?_;intro fn hfn;obtain ⟨rec,hrec⟩:∃ rec:LoopState→Option Code→Loop,rec=λst pe=>{state:=st,pending:=pe,fn,tmps:=a.tmps,params:=ps,assign,body,defers:=w.heap.size}:=⟨_,rfl⟩;obtain ⟨W1,hW1⟩:∃ W1,(w.alloc (.deferred (some []))).alloc (.loop (rec .ready none))=W1:=⟨_,rfl⟩;(have hL1:W1.heap[w.heap.size+1]?=some (.loop (rec .ready none)):=by rw [←hW1];have:=World.alloc_heap_new (w.alloc (.deferred (some []))) (.loop (rec .ready none));rwa [aX] at this);(have hK1:W1.heap[w.heap.size]?=some (.deferred (some [])):=by rw [←hW1];exact (Below.heap_alloc _ _ _ (by simp)).trans (World.alloc_heap_new w _));(have hB1:Below w.heap.size w W1:=by rw [←hW1];exact ((aA _ w).alloc (am _) _).alloc (by simp) _);(have hS1:W1.heap.size=w.heap.size+2:=by rw [←hW1];simp);have hI1:I 0 W1:=hI _ _ _ h0 (Turn.of_below hB1)
   refine ⟨w.heap.size+1,[{target:= .collected w.heap.size,args:=#[]}],W1,{target:= .fn (.func gf) lb,args:=#[.func (.yield (w.heap.size+1)) #[] #[]]},W1,gf,
    #[.func (.yield (w.heap.size+1)) #[] #[]]++lb,W1,?_,?_,?_,?_,λh=>by simp [Fence.wide] at h,?_⟩
   rw [←hW1,hrec];exact run_enterLoop_outer _ _ _ _ _;simp only [resolve,hg];simp [go_sem];intro f' _;trivial;simp [invoke,go_sem,eg]
   ·refine (callsIn_wide.2 (hseq (w.heap.size+1)
      (λj W=>I j W∧W.heap[w.heap.size+1]?=some (.loop (rec .ready none))∧W.heap[w.heap.size]?=some (.deferred (some [])))
      (λW=>∃ c,Ix c W∧W.heap[w.heap.size+1]?=some (.loop (rec .done (some c)))∧W.heap[w.heap.size]?=some (.deferred (some [])))
      W1 hB1 ?_ ?_ ?_ ?_ ⟨hI1,hL1,hK1⟩)).mono ?_
    rintro k (h|h|h);have:=hFb k h;omega;omega;omega;rintro j A B ⟨h1,h2,h3⟩ hb;exact ⟨hI _ _ _ h1 (hb.mono (by omega)),hb.same _ _ h2 (.inl (by omega)),hb.same _ _ h3 (.inl (by omega))⟩;rintro A B ⟨c,h1,h2,h3⟩ hb;exact ⟨c,hIx _ _ _ h1 (hb.mono (by omega)),hb.same _ _ h2 (.inl (by omega)),hb.same _ _ h3 (.inl (by omega))⟩
    ·
     rintro j x W hx ⟨hi,hl,hk⟩
     have hlt:w.heap.size+1<W.heap.size:=(bj.1 hl).1
     have hy:=run_yield (P:=prog) (args:=encs x) hl (by rw [hrec];exact hps x)
     rw [hrec] at hy
     refine ⟨fn,_,assign,body,hy,roundIn_of_wpIn hfn (hassign _ j x W _ hx hi hlt ?_)⟩
     clear hy
     intro a' Wa hba hia hax
     replace hl:=(hba.block _ (bj.1 hl).1).trans hl
     replace hk:=(hba.block _ (bj.1 hk).1).trans hk
     replace hlt:w.heap.size+1<Wa.heap.size:=(bj.1 hl).1
     refine ⟨_,run_beginRound hl (by rw [hrec]),?_⟩
     obtain ⟨W2,hW2⟩:∃ W2,Wa.putObj (w.heap.size+1) (.loop {rec .ready none with state:= .busy})=W2:=⟨_,rfl⟩
     have hl2:W2.heap[w.heap.size+1]?=some (.loop {rec .ready none with state:= .busy}):=by rw [←hW2];exact World.putObj_heap_same hlt
     have hk2:W2.heap[w.heap.size]?=some (.deferred (some [])):=by rw [←hW2];exact (World.putObj_heap_other (by omega)).trans hk
     have hc2:Chg (Own2 w.heap.size) Wa W2:=by rw [←hW2];exact (fM _).mono (λi _ e=> .inr e)
     have ht2:Turn w.heap.size Wa W2:=by rw [←hW2];exact Turn.put _ hl rfl (by omega)
     rw [hW2]
     refine wpIn_mono (hbody _ j x a' _ hx (hI _ _ _ hia ht2) (by have:=hc2.size;omega) (hAx _ _ _ _ hax ht2)) ?_
     have fin:∀ (jump:Option Code) (W3:World),Chg Fb W2 W3→
       (Instr.endRound (w.heap.size+1) jump).run prog W3= .ok (.bool jump.isNone) (W3.putObj (w.heap.size+1) (.loop (rec (if jump.isNone then .ready else .done) jump)))∧
       (W3.putObj (w.heap.size+1) (.loop (rec (if jump.isNone then .ready else .done) jump))).heap[w.heap.size+1]?=some (.loop (rec (if jump.isNone then .ready else .done) jump))∧
       (W3.putObj (w.heap.size+1) (.loop (rec (if jump.isNone then .ready else .done) jump))).heap[w.heap.size]?=some (.deferred (some []))∧
       Chg (Own2 w.heap.size) W3 (W3.putObj (w.heap.size+1) (.loop (rec (if jump.isNone then .ready else .done) jump)))∧
       Turn w.heap.size W3 (W3.putObj (w.heap.size+1) (.loop (rec (if jump.isNone then .ready else .done) jump))):=λjump W3 hk3=>by
      have hl3:=(hk3.block _ (bj.1 hl2).1 (λh=>by have:=hFb _ h;omega)).trans hl2
      have hk4:=(hk3.block _ (bj.1 hk2).1 (λh=>by have:=hFb _ h;omega)).trans hk2
      have:=run_endRound (P:=prog) jump hl3
      rw [hrec] at this⊢
      exact ⟨this,World.putObj_heap_same (bj.1 hl3).1,(World.putObj_heap_other (by omega)).trans hk4,(fM _).mono (λi _ e=> .inr e),Turn.put _ hl3 rfl (by omega)⟩
     have hall:∀ {W3 W4:World},Chg Fb W2 W3→Chg (Own2 w.heap.size) W3 W4→Chg (λk=>Fb k∨Own2 w.heap.size k) W W4:=λhk3 hc4=>by
      have e1:Chg (λk=>Fb k∨Own2 w.heap.size k) W W2:=(ac hba (F:=λk=>Fb k∨Own2 w.heap.size k)).trans hc2 (λ_ _ h=> .inr h)
      exact (e1.trans hk3 (λ_ _ h=> .inl h)).trans hc4 (λ_ _ h=> .inr h)
     rintro e a3 W3 hp
     cases e with
     |normal=>
      obtain ⟨hk3,hi3⟩:=hp
      obtain ⟨hr,hl4,hk4,hc4,ht4⟩:=fin none W3 hk3
      exact ⟨_,_,hr,.inl ⟨rfl,⟨hI _ _ _ hi3 ht4,hl4,hk4⟩,hall hk3 hc4⟩⟩
     |ret=>
      obtain ⟨hk3,hi3⟩:=hp
      obtain ⟨hr,hl4,hk4,hc4,ht4⟩:=fin (some .ret) W3 hk3
      exact ⟨_,_,hr,.inr ⟨rfl,⟨.ret,hIx _ _ _ hi3 ht4,hl4,hk4⟩,hall hk3 hc4⟩⟩
     |exit id=>
      obtain ⟨hk3,hi3⟩:=hp
      obtain ⟨hr,hl4,hk4,hc4,ht4⟩:=fin (some (.exit id)) W3 hk3
      exact ⟨_,_,hr,.inr ⟨rfl,⟨.exit id,hIx _ _ _ hi3 ht4,hl4,hk4⟩,hall hk3 hc4⟩⟩
     |goto t=>
      obtain ⟨hk3,hi3⟩:=hp
      obtain ⟨hr,hl4,hk4,hc4,ht4⟩:=fin (some (.goto t)) W3 hk3
      exact ⟨_,_,hr,.inr ⟨rfl,⟨.goto t,hIx _ _ _ hi3 ht4,hl4,hk4⟩,hall hk3 hc4⟩⟩
     |panic ch=>exact hp.elim
     |outgrown=>exact hp.elim
    ·
     rintro e W2 ⟨⟨v,rfl⟩,(⟨hi,hl,hk⟩|⟨c,hi,hl,hk⟩)⟩
     · exact ⟨none,_,by have:=run_endLoop (P:=prog) hl (by rw [hrec];simp);rw [hrec] at this;exact this,hdone _ (hI _ _ _ hi (Turn.put _ hl rfl (by omega))) ((World.putObj_heap_other (by omega)).trans hk)⟩
     · exact ⟨some c,_,by have:=run_endLoop (P:=prog) hl (by rw [hrec];simp);rw [hrec] at this;exact this,hstop c _ (hIx c _ _ hi (Turn.put _ hl rfl (by omega))) ((World.putObj_heap_other (by omega)).trans hk)⟩
end Go.Proofs.YtchbedbmjiabgaaGreatDoor
