/- TopFormat, part 32 of the proof: TCounts TEql TWholeD. No condition. -/
import Derived.Test.YtchbedbmjiabgaaGreatDoorZ24
import Derived.Test.YtchbedbmjiabgaaGreatDoorZ31
set_option linter.all false
set_option maxHeartbeats 16000000
set_option maxRecDepth 100000
namespace Go.Proofs.YtchbedbmjiabgaaGreatDoor
open Go.Maps Go.RowKit Go.Proofs.Tryz
def MpR (w:World) (b r:Nat) (f:Int→Option Value) (lf:Int→Bool) (cnt:Nat):Prop:=
 ∃ n D left,w.ranges prog 3 RV b r n D left cnt∧(∀ k:Int,Maps.has D (kI k)=(f k).isSome∧∀ v,f k=some v→∀ z,D.atKey (kI k) z= .held v)∧(∀ k,lf k=left (kI k))∧(∀ k,left (kI k)=true→(f k).isSome=true)
theorem MpR.lt {w:World} {b r:Nat} {f:Int→Option Value} {lf:Int→Bool} {cnt:Nat} (h:MpR w b r f lf cnt):r<w.heap.size:=by obtain ⟨n,D,left,h, -⟩:=h;exact h.lt
theorem MpR.chg {F:Nat→Prop} {w w':World} {b r:Nat} {f:Int→Option Value} {lf:Int→Bool} {cnt:Nat} (h:MpR w b r f lf cnt) (hc:Chg F w w') (hb:¬ F b) (hr:¬ F r):MpR w' b r f lf cnt:=by obtain ⟨n,D,left,⟨es,clock,since,seen,c0,h1,h2,h3,h4,h5,h6⟩,h7⟩:=h;exact ⟨n,D,left,⟨es,clock,since,seen,c0,(hc.block b (bj.1 h1).1 hb).trans h1,h2,h3,h4,(hc.block r (bj.1 h5).1 hr).trans h5,h6⟩,h7⟩
theorem same_kI (k x:Int):(kI k).sameKey (kI x)=decide (k=x):=by by_cases h:k=x;subst h;rw [bp rfl];exact WideAt.sameKey_self trivial;rw [bo h];cases e:(kI k).sameKey (kI x);rfl;exact absurd (WideAt.sameKey_eq e) (qW h)
section
variable {w:World} {ops:Array Oper} {rest:List Oper} {o:Oper} {a:Act} {Q:Exit→Act→World→Prop} {b n:Nat} {f:Int→Option Value}
theorem oF (hg:o.guard=none) (m:Operand) (t e:TypeId) (hop:o.op=Op.range t m) (ht:prog.underlying t=some (.map 3 e)) (hm:a.eval m= .map (some b)) (h:MpI w b n f)
  (hK:∀ w' cnt,MpR w' b w.heap.size f (λk=>(f k).isSome) cnt→Below w.heap.size w w'→wpList prog ops Q rest (a.put o.dst (.pointer (some ⟨w.heap.size,0,none⟩))) w'):wpList prog ops Q (o::rest) a w:=by obtain ⟨D,h1,h2⟩:=h;refine wpList_range_own w hg m t hop 3 e lawI ht RV b n D hm h1 λw' r1 r2 r3=>?_;exact hK w' _ ⟨n,D,_,r1,h2,λk=>((h2 k).1).symm,λk hk=>by rw [←(h2 k).1];exact hk⟩ ⟨r2.os,r2.tape,r2.output,by omega,λk hk=>r2.block k hk (by simp)⟩
theorem qt {r:Nat} {lf:Int→Bool} {cnt:Nat} (hg:o.guard=none) (it:Operand) (hop:o.op=Op.next it false) (hit:a.eval it= .pointer (some ⟨r,0,none⟩)) (h:MpR w b r f lf cnt)
  (hDone:(∀ k,lf k=false)→wpList prog ops Q rest (a.put o.dst (.tuple #[.bool false])) w)
  (hMore:∀ (x:Int) (u:Value) (w':World) (cnt':Nat),(Lit.int .i64 x).wf=true→lf x=true→f x=some u→MpR w' b r f (λk=>lf k&& !decide (k=x)) cnt'→cnt'<cnt→Chg (λj=>j=r) w w'→
    (Instr.entry (.pointer (some ⟨r,0,none⟩))).run prog w'= .ok (.tuple #[.int .i64 x,u]) w'→wpList prog ops Q rest (a.put o.dst (.tuple #[.bool true,.int .i64 x,u])) w'):wpList prog ops Q (o::rest) a w:=by obtain ⟨n,D,left,h1,h2,h3,h4⟩:=h;refine wpList_next_ranges w hg it hop 3 lawI RV (Value.int .i64) (λv=>v) (λkey kl hkey=>by obtain ⟨x,rfl,_⟩:=Maps.keyOf_int_inv underlying3 hkey;exact ⟨x,rfl⟩) (λv y _=>⟨v,rfl⟩) b r n D left cnt hit h1 (λ_ hl=>hDone λk=>(h3 k).trans (hl _)) ?_;intro x c kl y w' cnt' hkey hlk hR hat hrg hlt hgr hsz hen;obtain ⟨x',ex,rfl,hwx⟩:=Maps.keyOf_int_inv underlying3 hkey;cases ex;obtain rfl:(DataW.held c,[])=y:=a8 hR;have hx:=h4 x hlk;obtain ⟨u,hu⟩:=Option.isSome_iff_exists.1 hx;have e:DataW.held u=DataW.held c:=((h2 x).2 u hu (.held c)).symm.trans (hat (.held c));(obtain rfl:u=c:=by injection e);refine hMore x u w' cnt' hwx ((h3 x).trans hlk) hu ⟨n,D,_,hrg,h2,λk=>?_,λk hk=>?_⟩ hlt ((ae (λj=>j=r) w).grown hgr (λj _ e=>(a8 e).symm)) hen;show (lf k&& !decide (k=x))=(left (kI k)&& !(kI k).sameKey (.int .i64 x));rw [h3 k,←same_kI];rfl;have:(left (kI k)&& !(kI k).sameKey (.int .i64 x))=true:=hk;rw [Bool.and_eq_true] at this;exact h4 k this.1
end
def cntL (m:Cnt) (lf:Int→Bool) (n:Nat):List Int:=(List.range n).map λi:Nat=>if lf ((i:Int)+1)=true then 0 else (m ((i:Int)+1):Int)
def ga (m:Cnt) (n:Nat):List Int:=(List.range n).map λi:Nat=>(m ((i:Int)+1):Int)
theorem fe (m:Cnt) (lf:Int→Bool) (n:Nat):(cntL m lf n).length=n:=by simp [cntL]
theorem vy (m:Cnt) (n:Nat):cntL m (λk=>(cntV m k).isSome) n=List.replicate n 0:=by apply List.ext_getElem?;intro i;unfold cntL cntV;by_cases hi:i<n;simp only [aY,List.getElem?_range hi,List.getElem?_replicate,hi,if_true,Option.map_some,bK];by_cases h:m ((i:Int)+1)=0;simp [h];simp [h];rw [aP (by simp;omega),aP (by simp;omega)]
theorem AU {m:Cnt} {lf:Int→Bool} (n:Nat) (h:∀ k,lf k=false):cntL m lf n=ga m n:=by unfold cntL ga;refine List.map_congr_left λi _=>?_;rw [h];rfl
theorem AT {m:Cnt} {lf:Int→Bool} {n j:Nat} (h:j<n):(cntL m lf n).set j (m ((j:Int)+1):Int)=cntL m (λk=>lf k&& !decide (k=(j:Int)+1)) n:=by
 apply List.ext_getElem?;intro i;rw [List.getElem?_set];have hl:∀ (lf:Int→Bool) i,i<n→(cntL m lf n)[i]?=some (if lf ((i:Int)+1)=true then 0 else (m ((i:Int)+1):Int)):=λlf i hi=>by unfold cntL;rw [aY,List.getElem?_range hi];rfl
 by_cases hi:i<n
 ·rw [hl _ i hi,hl _ i hi,fe];by_cases e:j=i;subst e;simp [h]
  ·rw [bg e];(have:¬ ((i:Int)+1=(j:Int)+1):=by omega);simp [this]
 rw [bg (by omega),aP (by rw [fe];omega),aP (by rw [fe];omega)]
theorem we {cs:List Int} {rd0:Int→Option PP} {k:Int} (h:rdr cs rd0 k≠none):1≤k∧k≤(cs.length:Int):=by unfold rdr at h;by_cases h0:fQ cs k=0;rw [bh h0] at h;exact absurd rfl h;exact sg h0
theorem yH {m:Cnt} {x:Int} {u:Value} (h:cntV m x=some u):m x≠0∧u= .int .i64 (m x:Int):=by unfold cntV at h;by_cases h0:m x=0;rw [bh h0] at h;cases h;rw [bg h0] at h;exact ⟨h0,(a8 h).symm⟩
def wM (rd:Rdr) (ts:List TT) (n:Nat) (w:World) (e:Ending) (w':World):Prop:=
 Below w.heap.size w w'∧∃ r,Led rd (led0 ts) r∧match r with
  |none=>∃ er:Int,er≠0∧e= .returned (.tuple #[.slice none 0 0,.int .i64 er])
  |some m=>∃ oa oc,e= .returned (.tuple #[.slice oa n oc,.int .i64 0])∧OR eN w' oa oc n (cj (ga m n))∧∀ k,blk oa=some k→w.heap.size≤k
def vY (w W0:World) (b r ob n:Nat) (m:Cnt) (cnt:Nat) (wr:World):Prop:=
 ∃ lf,MpR wr b r (cntV m) lf cnt∧OR eN wr (some ⟨ob,0,none⟩) n n (cj (cntL m lf n))∧Below w.heap.size w wr
theorem oB (ts:List TT) {v lo:Nat} {cs:List Int} {rd0:Int→Option PP} {w:World} {toa:Option Addr} {toc:Nat} (hrt:∀ n p,rdr cs rd0 n=some p→RightP p) (hv:IsVault lo w v cs rd0) (hO:OR eTr w toa toc ts.length (gc ts)) (hn:ts.length≤1000) (hr:∀ t∈ts,t.root=0∨1≤t.root∧t.root≤65536):
  Calls prog 90 #[.pointer (some ⟨v,0,none⟩),.slice toa ts.length toc] w (wM (rdr cs rd0) ts cs.length w):=by
   have Ee:=Hd (led_any ts hrt ⟨cs,rd0,hv,rfl⟩ hO hn hr);have HV:=Hd hv;(have hcl:cs.length≤65536:=by obtain ⟨_,_,_,_,_,_,_,_,_,_,h⟩:=hv;exact h);obtain ⟨n,hl⟩:∃ n,ts.length=n:=⟨_,rfl⟩;obtain ⟨cl,hcle⟩:∃ cl,cs.length=cl:=⟨_,rfl⟩;rw [hl] at Ee⊢;rw [hcle] at hcl⊢;have DK:=Hd hcle;clear hO hr hl hrt hv hcle;go_enter func90,ntmps90;go_wp2_with fail;refine Ee.out.mono ?_;rintro _ w2 ⟨hb2,r,hr,hm⟩;have Bd:=Hd hb2;have HR:=Hd hr;clear hr hb2;cases r with
   |none=>obtain ⟨er,he,rfl⟩:=hm;(have heb:(er==0)=false:=by rw [br];exact he);go_wp2_with fail;go_ret2;exact ⟨Bd.out,none,HR.out,er,he,rfl⟩
   |some m=>
    obtain ⟨b,N,rfl,hMp,hbw,hkeys,hfew⟩:=hm;obtain ⟨gp,gm,N2,f2,h1,h2, -⟩:=HV.out.below Bd.out;obtain ⟨refs,ca,cc,la,lc,fr,t1,p1, -⟩:=h2;have v0:=bd _ _ 0 _ _ _ h1;have p1:=(dL p1).2.1;rw [DK.out] at p1;have BW:=Hd (Af p1);have hmk:=lr cl (by omega);have HMP:=Hd hMp;have Bo:=Hd hbw;have HKE:=Hd hkeys;have HFE:=Hd hfew;clear h1 p1 hMp hbw hkeys hfew;go_wp2_with fail;refine BW.out.mono ?_;rintro _ w3 ⟨rfl,rfl⟩;have HA:=Hd (bY w2 (.cells (cj (List.replicate cl 0)).toArray 3));have HO:=Hd (show OR eN (w2.alloc (.cells (cj (List.replicate cl 0)).toArray 3)) (some ⟨w2.heap.size,0,none⟩) cl cl (cj (List.replicate cl 0)) from OR.made eN w2 _ cl (by rw [cj,aB,aH];exact (Nat.mul_one _).symm) (by unfold maxLen;omega));have EI:=Hd (HMP.out.chg (F:=λ_=>False) (ac HA.out) (λf=>f));go_wp2_with (at_range;refine oF rfl (.tmp 26) 260 3 rfl underlying260 rfl EI.out ?_;intro w4 cnt hR hb4;have HRG:=Hd hR;have Be:=Hd hb4;have BH:=Hd (HO.out.chg (F:=λ_=>False) (ac hb4) (λ_ _ f=>f));clear hR hb4);have B6:=Hd (show b<w2.heap.size∧w.heap.size≤w2.heap.size from ⟨HMP.out.lt,Bd.out.size⟩);have Bt:=Hd (show w2.heap.size<(w2.alloc (.cells (cj (List.replicate cl 0)).toArray 3)).heap.size from HO.out.lt _ rfl);have By:=Hd (Bd.out.trans ((HA.out.trans (Be.out.mono HA.out.size)).mono Bd.out.size));generalize w2.alloc (.cells (cj (List.replicate cl 0)).toArray 3)=w3 at*;go_frame;go_loopw [9] (λ_ wr=>∃ cnt,vY w w3 b w3.heap.size w2.heap.size cl m cnt wr) (λ_ wr=>leastQ λq=>vY w w3 b w3.heap.size w2.heap.size cl m q wr);case atStart=>exact ⟨cnt,_,HRG.out,by rw [vy];exact BH.out,By.out⟩
    case round=>
     obtain ⟨wo,hwo⟩:∃ wo,wo=wr:=⟨_,rfl⟩;subst hwo;obtain ⟨q,hq⟩:∃ q,leastQ (λq=>vY w w3 b w3.heap.size w2.heap.size cl m q wo)=q:=⟨_,rfl⟩;have hsp:=jB hrel;rw [hq] at hsp;have HQ:=Hd hq;clear hrel hq;obtain ⟨lf,hR,hOr,hBr⟩:=hsp;have EV:=Hd hR;have HOr:=Hd hOr;have De:=Hd hBr;clear hR hOr hBr;go_wp2_with (at_next;refine qt rfl (.tmp 27) rfl rfl EV.out ?_ ?_)
     ·intro hl0
      have HF:=Hd (show wM (rdr cs rd0) ts cl w (.returned (.tuple #[.slice (some ⟨w2.heap.size,0,none⟩) cl cl,.int .i64 0])) wo from
       ⟨De.out,some m,HR.out,_,_,rfl,by rw [←AU cl hl0];exact HOr.out,λk e=>by cases e;exact B6.out.2⟩)
      go_wp2_with fail;go_ret2;exact HF.out
     ·intro x u w5 cnt5 hwx hlx hfx hR5 hlt hC5 hen;obtain ⟨hm0,rfl⟩:=yH hfx;obtain ⟨x1,x2⟩:=we (HKE.out x hm0);rw [DK.out] at x2;obtain ⟨j,rfl⟩:∃ j:Nat,x=(j:Int)+1:=⟨(x-1).toNat,by omega⟩;(have hj:j<cl:=by omega);have hw00:wrap64 (j:Int)=(j:Int):=IntWalk.wrap64_in _ (by omega);have CG:=Hd (HOr.out.chg hC5 (λk e f=>by have e2:w2.heap.size=k:=a8 e;have f2:k=w3.heap.size:=f;have:=Bt.out;omega));obtain ⟨_,e0,d0,d1⟩:=CG.out.cell (j:=j) (u:= .int .i64 ((cntL m lf cl)[j]'(by rw [fe];exact hj))) (by simp [cj,fe,hj]);cases e0;have Cs:=Hd (CG.out.set j (.int .i64 (m ((j:Int)+1):Int)) (by rw [cj,aB,fe];exact hj));have Bs:=Hd (hR5.chg (F:=λk=>k=w2.heap.size) ((ae (λk=>k=w2.heap.size) w5).setCell ⟨w2.heap.size,j,none⟩ (.int .i64 (m ((j:Int)+1):Int)) (λ_=>rfl)) (λe=>by have:=B6.out;omega) (λe=>by have:=Bt.out;omega))
      have HREL:=Hd (show ∃ q',vY w w3 b w3.heap.size w2.heap.size cl m q' (w5.setCell ⟨w2.heap.size,j,none⟩ (.int .i64 (m ((j:Int)+1):Int)))∧q'<q from by
       refine ⟨cnt5,⟨_,Bs.out,?_,?_⟩,hlt⟩
       ·(have e:(cj (cntL m lf cl)).set j (.int .i64 (m ((j:Int)+1):Int))=cj (cntL m (λk=>lf k&& !decide (k=(j:Int)+1)) cl):=by rw [←AT hj];unfold cj;rw [List.map_set]);rw [←e];exact Cs.out
       have h1:=De.out.trans (hC5.below De.out.size (λk e=>by have e2:k=w3.heap.size:=e;have:=Bt.out;have:=B6.out;omega));exact h1.setCell (show w.heap.size≤w2.heap.size from B6.out.2) _)
      clear hfx hR5 hlt hC5 hlx hm0;go_wp2_with fail;go_roundw;(case rel=>obtain ⟨q',h, -⟩:=HREL.out;exact ⟨q',h⟩);case measure=>rw [HQ.out];obtain ⟨q',h,h2⟩:=HREL.out;exact bQ (jL h) h2
end Go.Proofs.YtchbedbmjiabgaaGreatDoor
namespace Go.Proofs.YtchbedbmjiabgaaGreatDoor
open Go.RowKit Go.Proofs.Tryz
def RelEql (w0:World) (xs ys:List Int) (i:Value) (wr:World):Prop:=∃ k d:Nat,k≤xs.length∧i= .int .i64 k∧(∀ j,j<k→xs[j]?=ys[j]?)∧wr=w0.drewN d
def EqlP (xs ys:List Int) (w:World) (e:Ending) (w':World):Prop:=e= .returned (.bool (decide (xs=ys)))∧Below w.heap.size w w'
theorem tP {w:World} {a:Option Addr} {c:Nat} {xs:List Int} (h:OR eN w a c xs.length (cj xs)) {k:Nat} (hk:k<xs.length):∃ b,a=some ⟨b,0,none⟩∧w.cell? ⟨b,k,none⟩=some (.int .i64 (xs.getD k 0)):=by obtain ⟨b,e,h1, -⟩:=h.cell (j:=k) (u:= .int .i64 (xs.getD k 0)) (by simp [cj,ap hk,au]);exact ⟨b,e,h1⟩
theorem eql_any (xs ys:List Int) {a b:Option Addr} {ca cb n m:Nat} {w:World} (hn:xs.length=n) (hm:ys.length=m) (hx:OR eN w a ca xs.length (cj xs)) (hy:OR eN w b cb ys.length (cj ys)) (h9:n≤1000000) (h9m:m≤1000000):
  Calls prog 91 #[.slice a n ca,.slice b m cb] w (EqlP xs ys w):=by
   by_cases hnm:n=m
   ·subst hnm;have Hn:=Hd hn;have Hm:=Hd hm;have Hx:=Hd hx;have Hy:=Hd hy;clear hn hm hx hy h9m;go_enter func91,ntmps91;go_wp2_with fail;go_loopw [13] (λi wr=>RelEql w xs ys i wr) (λi _=>n-(intOf i).toNat);case atStart=>exact ⟨0,0,aV _,rfl,λj hj=>by omega,(World.drewN_zero _).symm⟩
    case round=>
     obtain ⟨k,d,hk,rfl,hE,hw⟩:=hrel;rw [Hn.out] at hk;by_cases hlt:k<n
     ·obtain ⟨bx,rfl,c0⟩:=tP (Hx.out.chg (F:=λ_=>False) (w':=wr) (ac (by rw [hw];exact cC (aA _ _) _)) (λ_ _ f=>f)) (k:=k) (by rw [Hn.out];exact hlt);obtain ⟨by_,rfl,d0⟩:=tP (Hy.out.chg (F:=λ_=>False) (w':=wr) (ac (by rw [hw];exact cC (aA _ _) _)) (λ_ _ f=>f)) (k:=k) (by rw [Hm.out];exact hlt);have HE:=Hd hE;have Hw:=Hd hw;have HX:=Hd (show xs[k]?=some (xs.getD k 0) by rw [au,ap (by rw [Hn.out];exact hlt)];rfl);have HY:=Hd (show ys[k]?=some (ys.getD k 0) by rw [au,ap (by rw [Hm.out];exact hlt)];rfl);clear hE hw;generalize xs.getD k 0=u at c0 HX;generalize ys.getD k 0=v at d0 HY;by_cases hq:u=v
      ·subst hq;go_wp2_with fail;go_quiet (fail);go_wp2_with fail;go_roundw;(case rel=>refine ⟨k+1,d+nq,by rw [Hn.out];exact hlt,by go_num,λj hj=>?_,?_⟩;by_cases e:j=k;subst e;exact HX.out.trans HY.out.symm;exact HE.out j (by omega);rw [Hw.out,World.drewN_drewN]);case measure=>exact cw hlt
      ·(have hqd:(u != v)=true:=by rw [bO];exact hq);have HF:xs≠ys:=λe=>hq (a8 (HX.out.symm.trans ((congrArg (·[k]?) e).trans HY.out)));have HFD:=Hd (bo HF);clear HF;go_wp2_with fail;go_quiet (fail);go_wp2_with fail;go_ret;exact ⟨by rw [HFD.out];rfl,by rw [Hw.out];exact cC (cC (aA _ _) _) _⟩
     ·(obtain rfl:k=n:=by omega);(have HF:xs=ys:=by apply List.ext_getElem?;intro i;by_cases hi:i<k;exact hE i hi;rw [aP (by have:=Hn.out;omega),aP (by have:=Hm.out;omega)]);have HFD:=Hd (bp HF);have Hw:=Hd hw;clear HF hE hw;go_wp2_with fail;go_ret;exact ⟨by rw [HFD.out];rfl,by rw [Hw.out];exact cC (aA _ _) _⟩
   ·have HFD:=Hd (show decide (xs=ys)=false from bo λe=>hnm (by rw [←hn,←hm,e]));(have hd:((n:Int) != (m:Int))=true:=by rw [bO];omega);clear hx hy hn hm;go_enter func91,ntmps91;go_wp2_with fail;go_ret;exact ⟨by rw [HFD.out];rfl,aA _ _⟩
def qU (Ds:List Nat):List Deferred:=Ds.map λD=>{target:= .collected D,args:=#[]}
structure MarksAt (lo:Nat) (Ds:List Nat) (w:World):Prop where
 lo:∀ D∈Ds,lo≤D
 row:∀ D∈Ds,w.heap[D]?=some (.deferred (some []))
 nd:Ds.Nodup
theorem MarksAt.chg {F:Nat→Prop} {lo:Nat} {Ds:List Nat} {w w':World} (h:MarksAt lo Ds w) (hc:Chg F w w') (hF:∀ D∈Ds,¬ F D):MarksAt lo Ds w':=
 ⟨h.lo,λD hD=>(hc.block D (rltT (h.row D hD)) (hF D hD)).trans (h.row D hD),h.nd⟩
theorem MarksAt.below {lo:Nat} {Ds:List Nat} {w w':World} (h:MarksAt lo Ds w) (hb:Below w.heap.size w w'):MarksAt lo Ds w':=h.chg (F:=λ_=>False) (ac hb) (λ_ _ f=>f)
theorem MarksAt.cons {lo D:Nat} {Ds:List Nat} {w:World} (h:MarksAt lo Ds w) (hl:lo≤D) (hr:w.heap[D]?=some (.deferred (some []))) (hn:D ∉ Ds):MarksAt lo (D::Ds) w:=
 ⟨λk hk=>by rcases bU.1 hk with rfl|hk;exact hl;exact h.lo k hk,λk hk=>by rcases bU.1 hk with rfl|hk;exact hr;exact h.row k hk,List.nodup_cons.2 ⟨hn,h.nd⟩⟩
theorem lz {fn:Func} {tmps:Array Value} {R:Ending→World→Prop} {v:Value} {lo:Nat}:∀ {Ds:List Nat} {w:World},MarksAt lo Ds w→
  (∀ w',Chg (λk=>k∈Ds) w w'→(results fn tmps).run prog w'= .ok v w'∧R (.returned v) w')→LeavesInM Fence.wide 0 prog fn tmps R (qU Ds) .returning w
 |[],w,h,hR=>⟨_,hR w (ae _ _)⟩
 |D::Ds,w,h,hR=>by have hD:=h.row D (List.mem_cons_self ..);have hn:=(List.nodup_cons.1 h.nd).1;have hc:=fM (W:=w) (l:=D) (.deferred none);refine ⟨by simp,.inl ⟨_,_,rfl,run_takeDeferred hD,?_⟩⟩;refine lz (Ds:=Ds) (lo:=lo) ⟨λk hk=>h.lo k (bS _ hk),λk hk=>?_,(List.nodup_cons.1 h.nd).2⟩ (λw' hw'=>hR w' ?_);have hk2:=h.row k (bS _ hk);exact (hc.block k (rltT hk2) (λe=>by subst e;exact hn hk)).trans hk2;exact (hc.mono (G:=λk=>k∈D::Ds) (λk _ e=>by subst e;exact List.mem_cons_self ..)).trans hw' (λk _ hk=>bS _ hk)
theorem uy {fn:Func} {tmps:Array Value} {R:Ending→World→Prop} {v:Value} {lo:Nat} {Ds:List Nat} {w:World} (h:MarksAt lo Ds w)
 (hR:∀ w',Chg (λk=>k∈Ds) w w'→(results fn tmps).run prog w'= .ok v w'∧R (.returned v) w'):bodyPostM Fence.wide 0 prog fn R .ret {tmps:=tmps,defers:=qU Ds} w:=lz h hR
def repO (a0 a1 a2 a3 a4 a5 a6:Int):Obj:= .cells #[.int .i64 a0,.int .i64 a1,.int .i64 a2,.int .i64 a3,.int .i64 a4,.int .i64 a5,.int .i64 a6,.slice none 0 0] 115
def BoxR (w:World) (b:Nat):Prop:=∃ a0 a1 a2 a3 a4 a5 a6:Int,w.heap[b]?=some (repO a0 a1 a2 a3 a4 a5 a6)
theorem em {a0 a1 a2 a3 a4 a5 a6:Int} {g:Nat} {w:World} (h:w.heap[g]?=some (repO a0 a1 a2 a3 a4 a5 a6)):w.cell? ⟨g,0,none⟩=some (.int .i64 a0)∧w.cell? ⟨g,1,none⟩=some (.int .i64 a1)∧w.cell? ⟨g,2,none⟩=some (.int .i64 a2)∧w.cell? ⟨g,3,none⟩=some (.int .i64 a3)∧w.cell? ⟨g,4,none⟩=some (.int .i64 a4)∧w.cell? ⟨g,5,none⟩=some (.int .i64 a5)∧w.cell? ⟨g,6,none⟩=some (.int .i64 a6)∧w.cell? ⟨g,7,none⟩=some (.slice none 0 0)∧∀ j,w.frozen? ⟨g,j,none⟩=false:=by have hc:=λj=>bd w g j _ _ _ h;exact ⟨hc 0,hc 1,hc 2,hc 3,hc 4,hc 5,hc 6,hc 7,λj=>bq w g j _ _ h⟩
theorem BoxR.chg {F:Nat→Prop} {b:Nat} {w w':World} (h:BoxR w b) (hc:Chg F w w') (hb:¬ F b):BoxR w' b:=by obtain ⟨a0,a1,a2,a3,a4,a5,a6,h⟩:=h;exact ⟨a0,a1,a2,a3,a4,a5,a6,(hc.block b (rltT h) hb).trans h⟩
theorem BoxR.below {b:Nat} {w w':World} (h:BoxR w b) (hc:Below w.heap.size w w'):BoxR w' b:=h.chg (F:=λ_=>False) (ac hc) (λf=>f)
theorem BoxR.lt {b:Nat} {w:World} (h:BoxR w b):b<w.heap.size:=by obtain ⟨a0,a1,a2,a3,a4,a5,a6,h⟩:=h;exact rltT h
theorem BoxR.set {b:Nat} {w:World} (h:BoxR w b) (j:Nat) (hj:j<7) (x:Int):BoxR (w.setCell ⟨b,j,none⟩ (.int .i64 x)) b:=by
 obtain ⟨a0,a1,a2,a3,a4,a5,a6,h⟩:=h;have e:=setD (i:=j) h (Value.int .i64 x);match j,hj with
 |0,_=>exact ⟨_,_,_,_,_,_,_,e⟩
 |1,_=>exact ⟨_,_,_,_,_,_,_,e⟩
 |2,_=>exact ⟨_,_,_,_,_,_,_,e⟩
 |3,_=>exact ⟨_,_,_,_,_,_,_,e⟩
 |4,_=>exact ⟨_,_,_,_,_,_,_,e⟩
 |5,_=>exact ⟨_,_,_,_,_,_,_,e⟩
 |6,_=>exact ⟨_,_,_,_,_,_,_,e⟩
def ttOf (x:Wi.Su.RT):TT:=⟨x.root,x.height,x.items⟩
theorem l6 {rd:Rdr} {t:TT} (hrt:∀ n p,rd n=some p→RightP p) (h:ib rd t=true):(∃ out,iN rd t out)∧(t.root=0∨∃ p,rd t.root=some p):=by
 unfold ib at h;by_cases hz:t.zero;exact ⟨⟨[],⟨.inl ⟨hz.1,rfl⟩,λx hx=>(by cases hx),by simp,by simp [hz.2.2]⟩⟩,.inl hz.1⟩
 ·rw [bg hz,Bool.and_eq_true] at h;obtain ⟨hk,h⟩:=h;unfold fj at hk;simp only [Bool.and_eq_true,bR] at hk;obtain ⟨hr0,hh1,hh2,hi⟩:=hk;unfold yS at h;cases hp:eM rd (t.height-1).toNat t.root (min t.height 2).toNat allR (λ_=>false) with
  |none=>rw [hp] at h;cases h
  |some r=>
   obtain ⟨m,out⟩:=r;rw [hp] at h;(have hl:(t.height-1).toNat≤11:=by omega);obtain ⟨⟨c,hs,hc⟩,hv,hn⟩:=kt hrt hp;have h8:8^(t.height-1).toNat≤8^11:=Nat.pow_le_pow_right (by decide) hl;have h9:8^((t.height-1).toNat+1)≤8^12:=Nat.pow_le_pow_right (by decide) (by omega);refine ⟨⟨out,.inr ⟨hr0,c,hs,?_⟩,hv,?_,bX h⟩,.inr ?_⟩
   ·(have:(8:Nat)^11=8589934592:=by decide);omega
   ·(have:(8:Nat)^12=68719476736:=by decide);omega
   ·rw [nD] at hp;unfold fk at hp;rw [bg (by simp)] at hp;cases hrd:rd t.root with
    |none=>rw [hrd] at hp;cases hp
    |some p=>exact ⟨p,rfl⟩
def ij (rd:Rdr) (cs:List Int) (ts:List TT):Prop:=(∀ t∈ts,ib rd t=true)∧∃ m,Led rd (led0 ts) (some m)∧ga m cs.length=cs
def zG (T:Prop) (w:World) (e:Ending) (w':World):Prop:=
 Below w.heap.size w w'∧∃ (a0 a1 a2 a3 a4 a5 a6 er:Int),e= .returned (.tuple #[.agg #[.int .i64 a0,.int .i64 a1,.int .i64 a2,.int .i64 a3,.int .i64 a4,.int .i64 a5,.int .i64 a6,.slice none 0 0],.int .i64 er])∧(er=0↔T)
theorem dd:∀ {rs:List Wi.Su.RT} {i:Nat} {x:Wi.Su.RT},rs[i]?=some x→∀ j u,([.int .i64 x.id,.int .i64 x.root,.int .i64 x.height,.int .i64 x.items]:List Value)[j]?=some u→(Wi.Su.cellsR rs)[i*4+j]?=some u
 |t::ts,0,_,h,j,u,hu=>by
  cases h
  show (([.int .i64 t.id,.int .i64 t.root,.int .i64 t.height,.int .i64 t.items]:List Value)++Wi.Su.cellsR ts)[0*4+j]?=some u
  rw [Nat.zero_mul,bP,aM (ar.1 hu).1]
  exact hu
 |t::ts,i+1,t2,h,j,u,hu=>by
  show (([.int .i64 t.id,.int .i64 t.root,.int .i64 t.height,.int .i64 t.items]:List Value)++Wi.Su.cellsR ts)[(i+1)*4+j]?=some u
  have e:(i+1)*4+j=([.int .i64 t.id,.int .i64 t.root,.int .i64 t.height,.int .i64 t.items]:List Value).length+(i*4+j):=by show _=4+_;omega
  rw [e,aN (Nat.le_add_right _ _),Nat.add_sub_cancel_left]
  exact dd (i:=i) h j u hu
end Go.Proofs.YtchbedbmjiabgaaGreatDoor
