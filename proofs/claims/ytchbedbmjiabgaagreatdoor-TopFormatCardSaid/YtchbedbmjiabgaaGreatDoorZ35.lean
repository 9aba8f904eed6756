/- TopFormat, part 35 of the proof: TOpen TImg TDk TCopy TLaid. No condition. -/
import Derived.Test.YtchbedbmjiabgaaGreatDoorZ34
set_option linter.all false
set_option maxHeartbeats 16000000
set_option maxRecDepth 100000
namespace Go.Proofs.YtchbedbmjiabgaaGreatDoor
open Go.RowKit Go.Proofs.Tryz
theorem mH {xs:List SX} {i:Nat} {x:SX} (h:xs[i]?=some x) (j:Nat) (u:Value) (hj:j<6) (hu:(dN x)[j]?=some u):(eH xs)[i*6+j]?=some u:=by unfold eH;rw [js dN (s:=6) (by decide) xs (λv _=>rfl),show (i*6+j)/6=i by omega,show (i*6+j)%6=j by omega,h];exact hu
theorem wb {w:World} {s:Wi.Su.SP} {oa:Option Addr} {cap:Nat} (h:Wi.Su.ORt w oa cap s.roots) (hr:Wi.Su.scheck s=0):Wi.Su.SpAt w.heap.size w s oa cap:=by have hR:=Wi.Su.scheck_ok.1 hr;obtain ⟨h1,h2,h3⟩:=hR.may;obtain ⟨n1,n2,n3⟩:=hR.num;refine ⟨h.rts,λx hx=>?_,by have:=hR.len;omega,h.nilcap,?_,?_,?_,?_,?_⟩;obtain ⟨i,hi⟩:=bW hx;obtain ⟨a1,a2,a3,a4⟩:=hR.root hi;refine ⟨?_,?_,?_,?_⟩<;>unfold Wi.Su.i64ok<;>omega;all_goals unfold Wi.Su.i64ok;omega
noncomputable def firstL (img:Int→List UInt8):List Wi.Su.SP→Option (Wi.Su.SP×(List Int×(Int→Option PP)))
 |[]=>none
 |s::r=>match loadS img s with
  |some x=>some (s,x)
  |none=>firstL img r
noncomputable def openS (img:Int→List UInt8) (n:Nat):Option (Wi.Su.SP×(List Int×(Int→Option PP))):=firstL img (dz img n 2)
def COpT (o:Option (Wi.Su.SP×(List Int×(Int→Option PP)))) (lo:Nat) (w':World) (sv p:Value) (er:Int):Prop:=match o with
 |none=>sv=Wi.Su.spv Wi.Su.zeroS none 0∧p= .pointer none∧er=18
 |some r=>er=0∧(∃ ra rc,sv=Wi.Su.spv r.1 ra rc∧Wi.Su.ORt w' ra rc r.1.roots)∧∃ v,p= .pointer (some ⟨v,0,none⟩)∧IsVault lo w' v r.2.1 r.2.2
def COpP (o:Option (Wi.Su.SP×(List Int×(Int→Option PP)))) (lo:Nat) (w:World) (e:Ending) (w':World):Prop:=
 Below w.heap.size w w'∧∃ sv p er,e= .returned (.tuple #[sv,p,.int .i64 er])∧COpT o lo w' sv p er
def supV (v0 v1 v2 v3 v4 v5:Value):Obj:= .cells #[v0,v1,v2,v3,v4,v5] 57
theorem pO {o:Option (Wi.Su.SP×(List Int×(Int→Option PP)))} {lo b:Nat} {w wr:World} {tmps:Array Value} {p v0 v1 v2 v3 v4 v5:Value} {er:Int} (hB:Below w.heap.size w wr) (hq:wr.heap[b]?=some (supV v0 v1 v2 v3 v4 v5)) (h2:tmps[2]?.getD undef= .pointer (some ⟨b,0,none⟩)) (h3:tmps[3]?.getD undef=p) (h4:tmps[4]?.getD undef= .int .i64 er)
  (hm:COpT o lo wr (.agg #[v0,v1,v2,v3,v4,v5]) p er):
  bodyPost prog Tryz.f21 (COpP o lo w) .ret {tmps:=tmps,defers:=[]} wr:=by obtain ⟨c0,c1,c2,c3,c4,c5⟩:=row6 hq;refine bodyPost_ret (v:= .tuple #[.agg #[v0,v1,v2,v3,v4,v5],p,.int .i64 er]) ?_ rfl ⟨hB,_,p,er,rfl,hm⟩;simp [results,results21,go_sem,h2,h3,h4,c0,c1,c2,c3,c4,c5]
theorem rN {E:Elt} {w:World} {a:Option Addr} {c n g:Nat} {cs:List Value} {vs:Array Value} {T:TypeId} (h:OR E w a c n cs) (hg:w.heap[g]?=some (.cells vs T)) (ne:E.e≠T):blk a≠some g:=by intro e;rcases h.form.2 with ⟨rfl, -⟩|⟨b,rfl, -, -, -,rest,h5, -⟩;cases e;cases e;rw [h5] at hg;simp only [bK,Obj.cells.injEq] at hg;exact ne hg.2.1
def RelOp (o:Option (Wi.Su.SP×(List Int×(Int→Option PP)))) (img:Int→List UInt8) (l:List Wi.Su.SP) (b:Nat) (W:World) (iv:Value) (wr:World):Prop:=
 ∃ j:Nat,j≤l.length∧iv= .int .i64 j∧firstL img (l.drop j)=o∧wr.heap[b]?=some (supV (.int .i64 0) (.int .i64 0) (.int .i64 0) (.int .i64 0) (.int .i64 0) (.slice none 0 0))∧Below W.heap.size W wr
theorem yG {g n lo:Nat} {img:Int→List UInt8} {w:World} (hd:DkAt w g n img) (hn:n≤65536) (hn2:2≤n) (hE:EvAt w) (hT:ErrT w) (hlo:lo≤w.heap.size):
  Calls prog 21 #[.pointer (some ⟨g,0,none⟩)] w (COpP (openS img n) lo w):=by
   have Gk:=Hd hd;have HN:=Hd hn;have Cy:=Hd hn2;have G9:=Hd hE;have HET:=Hd hT;have B7:=Hd hlo;obtain ⟨o,ho⟩:∃ o,openS img n=o:=⟨_,rfl⟩;have HO:=Hd ho;rw [ho];unfold openS at HO;have C7:=Hd (i4 (img:=img) (n:=n) 2);have DJ:=Hd (jC (img:=img) (n:=n) 2);obtain ⟨l,hl⟩:∃ l,dz img n 2=l:=⟨_,rfl⟩;have HCA:=Hd λw' (h:Below w.heap.size w w')=>yL (hd.below h) hn hn2;rw [hl] at HO C7 HCA DJ;clear hd hn hn2 hE hT hlo ho hl;go_enter func21,ntmps21;go_wp2_with (refine cu rfl 57 rfl _ gz ?_;intro w1 hR hb;have HP1:=Hd hR;have Bh:=Hd hb;clear hR hb);refine (HCA.out _ Bh.out).mono ?_;rintro _ w2 ⟨a,c,xs,rfl,hxs,hS,hb⟩;have Bd:=Hd (Bh.out.trans (hb.mono Bh.out.size));have Et:=Hd ((hb.block _ (rltT HP1.out)).trans HP1.out);have Bv:=Hd hS;have Em:=Hd hxs;(have hql:xs.length=l.length:=by rw [←hxs,aB]);obtain ⟨q,hq⟩:∃ q,xs.length=q:=⟨_,rfl⟩;have HQ:=Hd hq;have DQ:=Hd (hql.symm.trans hq);rw [hq];clear hS hxs hb hq hql;go_wp2_with fail;go_loopw [23] (λiv wr=>RelOp o img l w.heap.size w2 iv wr) (λiv _=>q-(intOf iv).toNat);case atStart=>exact ⟨0,aV _,rfl,HO.out,Et.out,aA _ _⟩
   case round=>
    obtain ⟨w5,hw5⟩:∃ w5,w5=wr:=⟨_,rfl⟩;subst hw5;obtain ⟨j,hj,rfl,hf,hP,hB⟩:=hrel;rw [DQ.out] at hj;have Ec:=Hd hP;have Bj:=Hd hB;have HF:=Hd hf;have DO:=Hd (Bv.out.below Bj.out);clear hP hB hf;(have hq2:q≤2:=by have:=DJ.out;rw [DQ.out] at this;exact this);by_cases hjl:j<q
    ·obtain ⟨x,hx⟩:∃ x,xs[j]?=some x:=⟨_,ap (by rw [HQ.out];exact hjl)⟩;obtain ⟨gb,rfl, -, -⟩:=ai DO.out.own (mH hx 0 _ (by decide) rfl);(have hc:∀ i u,i<6→(dN x)[i]?=some u→w5.cell? ⟨gb,j*6+i,none⟩=some u:=λi u hi hu=>by obtain ⟨g',e,h, -⟩:=ai DO.out.own (mH hx i _ hi hu);cases e;exact h);(have hmem:x.1∈l:=by rw [←Em.out];exact List.mem_map_of_mem (aD hx));have HM:=Hd (C7.out x.1 hmem);have B1:=Hd (DO.out.rts x (aD hx));have E5:=Hd (show firstL img (l.drop j)=match loadS img x.1 with|some y=>some (x.1,y)|none=>firstL img (l.drop (j+1)) from by (have hl:l[j]?=some x.1:=by rw [←Em.out,aY,hx];rfl);obtain ⟨hjj,he⟩:=ar.1 hl;rw [List.drop_eq_getElem_cons hjj,he];rfl);obtain ⟨⟨gn,⟨bl,cl,re⟩,nx,rs⟩,ra,rc⟩:=x;simp only at HM B1 E5;have c0:w5.cell? ⟨gb,j*6,none⟩=some (.int .i64 gn):=hc 0 _ (by decide) rfl;have c1:w5.cell? ⟨gb,j*6+1,none⟩=some (.int .i64 bl):=hc 1 _ (by decide) rfl;have c2:w5.cell? ⟨gb,j*6+2,none⟩=some (.int .i64 cl):=hc 2 _ (by decide) rfl;have c3:w5.cell? ⟨gb,j*6+3,none⟩=some (.int .i64 re):=hc 3 _ (by decide) rfl;have c4:w5.cell? ⟨gb,j*6+4,none⟩=some (.int .i64 nx):=hc 4 _ (by decide) rfl;have c5:w5.cell? ⟨gb,j*6+5,none⟩=some (.slice ra rs.length rc):=hc 5 _ (by decide) rfl;obtain ⟨rl,hrl⟩:∃ rl,rs.length=rl:=⟨_,rfl⟩;have CJ:=Hd hrl;rw [hrl] at c5;clear hrl;clear hc hmem hx;have hb5:=Bd.out.trans (Bj.out.mono Bd.out.size);have HB05:=Hd hb5;have HRT5:=Hd B1.out;clear hb5;go_wp2_with (first|(refine cu rfl 57 rfl _ gz ?_;intro w6 hR hb;have EF:=Hd hR;have CA:=Hd hb;clear hR hb c0 c1 c2 c3 c4 c5)|(refine cr rfl 57 (.tmp 8) (.tmp 26) rfl w5.heap.size rfl _ #[.int .i64 gn,.int .i64 bl,.int .i64 cl,.int .i64 re,.int .i64 nx,.slice ra rl rc] rfl EF.out (by kernel_rfl) rfl rfl ?_;intro w7 hR hC;have Di:=Hd (aa CA.out hC);have C0:=Hd hR;obtain ⟨z0,z1,z2,z3,z4,z5⟩:=row6 hR;clear hR hC));have Bq:=Hd (HB05.out.trans (Di.out.mono HB05.out.size));have HZ7:=Hd (show w.heap.size<w7.heap.size from by have h1:=rltT HP1.out;have h2:=Bd.out.size;have h3:=Bq.out.size;have h4:=Di.out.size;have h5:=rltT Ec.out;omega);have hort:=B1.out.below Di.out;have Ee:=Hd (Au (s:=⟨gn,⟨bl,cl,re⟩,nx,rs⟩) (lo:=w7.heap.size) (Gk.out.below Bq.out) HN.out hort (wb hort HM.out.1) HM.out.1 HM.out.2 (G9.out.below Bq.out) (HET.out.below Bq.out) (am _));have HRT7:=Hd hort;unfold Wi.Su.spv at Ee;simp only [CJ.out] at Ee;clear z0 z1 z2 z3 z4 z5;refine Ee.out.mono ?_;rintro _ w8 ⟨hb8,p,er,a0,a1,a2,a3,a4,a5,a6,rfl,hm⟩;unfold repV;have Ct:=Hd (Bq.out.trans (hb8.mono Bq.out.size));have FV:=Hd ((hb8.block _ (rltT C0.out)).trans C0.out);have Do:=Hd (((Di.out.trans (hb8.mono Di.out.size)).block _ (rltT Ec.out)).trans Ec.out);have HRT8:=Hd (HRT7.out.below hb8);have HB28:=Hd (Bj.out.trans ((Di.out.trans (hb8.mono Di.out.size)).mono Bj.out.size));have HS78:=Hd hb8.size;clear hb8;obtain ⟨ls,hls⟩:∃ ls,loadS img ⟨gn,⟨bl,cl,re⟩,nx,rs⟩=ls:=⟨_,rfl⟩;rw [hls] at hm E5;clear hls;cases ls with
     |none=>obtain ⟨rfl,hne⟩:=hm;(have hbe:(er==0)=false:=by rw [br];exact hne);clear hne;go_wp2_with (first|(refine cu rfl 115 rfl _ kH ?_;intro w9 hR hb;have Dv:=Hd hR;have CW:=Hd hb;clear hR hb)|(refine cr rfl 115 (.tmp 10) (.tmp 32) rfl w8.heap.size rfl _ #[.int .i64 a0,.int .i64 a1,.int .i64 a2,.int .i64 a3,.int .i64 a4,.int .i64 a5,.int .i64 a6,.slice none 0 0] rfl Dv.out (by kernel_rfl) rfl rfl ?_;intro w10 hR hC;have BL:=Hd (aa CW.out hC);clear hR hC));go_roundw;(case rel=>exact ⟨j+1,by rw [DQ.out];omega,rfl,by rw [←E5.out];exact HF.out,(BL.out.block _ (rltT Do.out)).trans Do.out,HB28.out.trans (BL.out.mono HB28.out.size)⟩);case measure=>exact cw hjl
     |some y=>obtain ⟨rfl,v,rfl,hv⟩:=hm;have HV:=Hd hv;have HOE:=Hd (HF.out.symm.trans E5.out);clear hv;go_wp2_with (first|(refine cu rfl 115 rfl _ kH ?_;intro w9 hR hb;have Dv:=Hd hR;have CW:=Hd hb;clear hR hb)|(refine cr rfl 115 (.tmp 10) (.tmp 32) rfl w8.heap.size rfl _ #[.int .i64 a0,.int .i64 a1,.int .i64 a2,.int .i64 a3,.int .i64 a4,.int .i64 a5,.int .i64 a6,.slice none 0 0] rfl Dv.out (by kernel_rfl) rfl rfl ?_;intro w10 hR hC;have BL:=Hd (aa CW.out hC);have HV10:=Hd (HV.out.below BL.out);have GN:=Hd (HRT8.out.below BL.out);have CM:=Hd ((BL.out.block _ (rltT Do.out)).trans Do.out);have BD:=Hd (Ct.out.trans (BL.out.mono Ct.out.size));obtain ⟨z0,z1,z2,z3,z4,z5⟩:=row6 ((BL.out.block _ (rltT FV.out)).trans FV.out);clear hR hC)|(refine cr rfl 57 (.tmp 2) (.tmp 36) rfl w.heap.size rfl _ #[.int .i64 gn,.int .i64 bl,.int .i64 cl,.int .i64 re,.int .i64 nx,.slice ra rl rc] rfl CM.out (by kernel_rfl) rfl rfl ?_;intro w11 hR hC;have DA:=Hd hR;have BB:=Hd (BD.out.trans (hC.below BD.out.size (λk e=>aS e.symm)));have Hj:=Hd (HV10.out.chg hC (λk e=>by have:=HZ7.out;omega));have HRT11:=Hd (aj GN.out hC (λk e f=>by subst f;exact rN GN.out CM.out (by decide) e));clear hR hC z0 z1 z2 z3 z4 z5));have hlo:lo≤w7.heap.size:=ao B7.out Bq.out.size;obtain rfl:=HOE.out;exact pO BB.out DA.out rfl rfl rfl ⟨rfl,⟨ra,rc,by unfold Wi.Su.spv;simp only [CJ.out],HRT11.out⟩,v,rfl,Hj.out.low2 hlo⟩
    ·(obtain rfl:j=q:=by omega);have HOE:=Hd (show o=none from by rw [←HF.out,List.drop_of_length_le (by rw [DQ.out];exact am _)];rfl);go_wp2_with (refine cr rfl 57 (.tmp 2) (.tmp 39) rfl w.heap.size rfl _ #[.int .i64 0,.int .i64 0,.int .i64 0,.int .i64 0,.int .i64 0,.slice none 0 0] rfl Ec.out (by kernel_rfl) rfl rfl ?_;intro w11 hR hC;have DA:=Hd hR;have hb:=Bd.out.trans (Bj.out.mono Bd.out.size);have BB:=Hd (hb.trans (hC.below hb.size (λk e=>aS e.symm)));clear hR hC hb);obtain rfl:=HOE.out;exact pO BB.out DA.out rfl rfl rfl ⟨rfl,rfl,rfl⟩
def gy (bs:List UInt8):Option (List UInt8):=if bs=zs 512 then none else some bs
theorem kv (bs:List UInt8):kept bs=(gy bs).map bv:=by unfold kept gy;split<;>rfl
theorem lU {bs b:List UInt8} (h:bs.length=512) (hb:gy bs=some b):b.length=512:=by unfold gy at hb;split at hb;cases hb;cases hb;exact h
theorem yj (bs:List UInt8):(gy bs).getD (zs 512)=bs:=by
 unfold gy;split
 ·rename_i h;rw [h];rfl
 rfl
def updB (f:Int→Option (List UInt8)) (k:Int) (v:Option (List UInt8)):Int→Option (List UInt8):=λj=>if j=k then v else f j
theorem kQ (f:Int→Option (List UInt8)) (k:Int) (v:Option (List UInt8)):upd (λj=>(f j).map bv) k (v.map bv)=λj=>(updB f k v j).map bv:=by funext j;unfold upd updB;by_cases h:j=k<;>simp [h]
def setB (f:Int→Option (List UInt8)) (ws:List (Int×List UInt8)):Int→Option (List UInt8):=ws.foldl (λf x=>updB f x.1 (gy x.2)) f
theorem xe (ws:List (Int×List UInt8)):∀ f:Int→Option (List UInt8),setl (λj=>(f j).map bv) ws=λj=>(setB f ws j).map bv:=by
 induction ws with
 |nil=>intro f;rfl
 |cons x ws ih=>intro f;show setl (upd (λj=>(f j).map bv) x.1 (kept x.2)) ws=λj=>(setB (updB f x.1 (gy x.2)) ws j).map bv;rw [kv,kQ,ih]
def setK (f:Int→Option (List UInt8)) (q:Nat→Bool) (ws:List (Int×List UInt8)):Nat→Int→Option (List UInt8)
 |0=>f
 |j+1=>match ws[j]? with
  |some x=>if q j then updB (setK f q ws j) x.1 (gy x.2) else setK f q ws j
  |none=>setK f q ws j
theorem oV (f:Int→Option (List UInt8)) (q:Nat→Bool) (ws:List (Int×List UInt8)):∀ j,setQ (λk=>(f k).map bv) q ws j=λk=>(setK f q ws j k).map bv
 |0=>rfl
 |j+1=>by
  unfold setQ setK;rw [oV f q ws j];cases ws[j]? with
  |none=>rfl
  |some x=>simp only;split;rw [kv,kQ];rfl
theorem kR {f:Int→Option (List UInt8)} {k:Int} {v:Option (List UInt8)} (h:∀ j b,f j=some b→b.length=512) (hv:∀ b,v=some b→b.length=512):∀ j b,updB f k v j=some b→b.length=512:=by intro j b hb;unfold updB at hb;split at hb;exact hv b hb;exact h j b hb
theorem zX {ws:List (Int×List UInt8)}:∀ {f:Int→Option (List UInt8)},(∀ j b,f j=some b→b.length=512)→(∀ x∈ws,x.2.length=512)→∀ j b,setB f ws j=some b→b.length=512:=by
 induction ws with
 |nil=>intro f h _;exact h
 |cons x ws ih=>intro f h hw;exact ih (f:=updB f x.1 (gy x.2)) (kR h (λb hb=>lU (hw x (by simp)) hb)) (λy hy=>hw y (by simp [hy]))
theorem kS {f:Int→Option (List UInt8)} {q:Nat→Bool} {ws:List (Int×List UInt8)} (h:∀ j b,f j=some b→b.length=512) (hw:∀ x∈ws,x.2.length=512):∀ k j b,setK f q ws k j=some b→b.length=512
 |0,j,b,hb=>h j b hb
 |k+1,j,b,hb=>by
  unfold setK at hb;cases hx:ws[k]? with
  |none=>rw [hx] at hb;exact kS h hw k j b hb
  |some x=>rw [hx] at hb;simp only at hb;split at hb;exact kR (kS h hw k) (λb hb=>lU (hw x (aD hx)) hb) j b hb;exact kS h hw k j b hb
def cS (la:Int→Option (List UInt8)) (i:Int):List UInt8:=(la i).getD (zs 512)
theorem fd (f:Int→Option (List UInt8)) (k:Int) (bs:List UInt8) (i:Int):cS (updB f k (gy bs)) i=if i=k then bs else cS f i:=by unfold cS updB;by_cases h:i=k;simp only [h,if_true];exact yj bs;simp only [bg h]
theorem ue (la:Int→Option (List UInt8)) (i:Int):lF (λ_=>none) la i=cS la i:=by unfold lF cS;cases la i<;>rfl
def lasB (img:List UInt8):Nat→Int→Option (List UInt8)
 |0=>λ_=>none
 |j+1=>updB (lasB img j) j (gy (e8 img j))
theorem pH (img:List UInt8):∀ j,imgF img j=λk=>(lasB img j k).map bv
 |0=>rfl
 |j+1=>by rw [imgF,pH img j,kv,kQ];rfl
theorem eJ (img:List UInt8):∀ (n:Nat) (i:Int),0≤i→i<(n:Int)→cS (lasB img n) i=e8 img i.toNat
 |0,i,h0,h1=>by omega
 |n+1,i,h0,h1=>by rw [lasB,fd];by_cases h:i=(n:Int);rw [bh h,h];rfl;rw [bg h];exact eJ img n i h0 (by omega)
theorem rS {img:List UInt8} {n:Nat} (h:img.length=n*512):∀ m,m≤n→∀ j b,lasB img m j=some b→b.length=512
 |0,_,j,b,hb=>by cases hb
 |m+1,hm,j,b,hb=>kR (rS h m (by omega)) (λb hb=>lU (lD h (by omega)) hb) j b hb
def ix (img:List UInt8) (i:Int):List UInt8:=e8 img i.toNat
def zK (z1 z2:Bool) (img:List UInt8):List UInt8:=(if z1 then zs 512 else img.take 512)++((if z2 then zs 512 else (img.drop 512).take 512)++img.drop 1024)
theorem jm {z1 z2:Bool} {img:List UInt8} (h:1024≤img.length):(zK z1 z2 img).length=img.length:=by
 have hz:(zs 512).length=512:=by simp [zs]
 unfold zK;rw [aq,aq,aL];cases z1<;>cases z2<;>simp only [if_true,if_false,bt,hz,aC,aL]<;>omega
theorem vZ {img:List UInt8}:zK false false img=img:=by unfold zK;simp only [bt,if_false];rw [show img.drop 1024=(img.drop 512).drop 512 from by rw [bT],bL,bL]
theorem tG {z1 z2:Bool} {img:List UInt8} (h:1024≤img.length) (j:Nat):e8 (zK z1 z2 img) j=if j=0 then (if z1 then zs 512 else e8 img 0) else if j=1 then (if z2 then zs 512 else e8 img 1) else e8 img j:=by
 have hz:(zs 512).length=512:=by simp [zs]
 have h1:(if z1 then zs 512 else img.take 512).length=512:=by cases z1<;>simp [hz]<;>omega
 have h2:(if z2 then zs 512 else (img.drop 512).take 512).length=512:=by cases z2<;>simp [hz]<;>omega
 unfold zK e8;generalize hA:(if z1 then zs 512 else img.take 512)=A at*;generalize hB:(if z2 then zs 512 else (img.drop 512).take 512)=B at*;match j with
 |0=>rw [Nat.zero_mul,ax,List.take_left' h1,←hA];simp
 |1=>rw [show 1*512=A.length by omega,List.drop_left,List.take_left' h2,←hB];simp
 |j+2=>rw [show (j+2)*512=A.length+(B.length+j*512) by omega,←bT,List.drop_left,←bT,List.drop_left,bT];rw [bg (by omega),bg (by omega)];congr 2;omega
structure DkW (w:World) (g ml ms n:Nat) (on:Bool) (al wr sy:Int) (wa:Option Addr) (B:Nat) (ws:List (Int×List UInt8)) (la sh:Int→Option (List UInt8)):Prop where
 row:∃ wc,w.heap[g]?=some (rowD n ml (.slice wa ws.length wc) ms on al wr sy)∧OR eWr w wa wc ws.length (fm ws)
 pl:MpI w ml B (λk=>(la k).map bv)
 ps:MpI w ms B (λk=>(sh k).map bv)
 ne:ml≠ms
 wl:∀ x∈ws,x.2.length=512∧(Lit.int .i64 x.1).wf=true
 lal:∀ k b,la k=some b→b.length=512
 shl:∀ k b,sh k=some b→b.length=512
 al0: -1≤al∧al≤9223372036854775807
 wr0:0≤wr∧0≤sy
 nn:n≤65536
def DkF (g ml ms:Nat) (wa:Option Addr) (j:Nat):Prop:=j=g∨j=ml∨j=ms∨blk wa=some j
section
variable {w:World} {g ml ms n B:Nat} {on:Bool} {al wr sy:Int} {wa:Option Addr} {ws:List (Int×List UInt8)} {la sh:Int→Option (List UInt8)}
theorem DkW.chg {F:Nat→Prop} {w':World} (h:DkW w g ml ms n on al wr sy wa B ws la sh) (hc:Chg F w w') (hF:∀ j,DkF g ml ms wa j→¬ F j):DkW w' g ml ms n on al wr sy wa B ws la sh:=by obtain ⟨⟨wc,h1,h2⟩,h3,h4,h5,h6,h7,h8,h9,h10,h11⟩:=h;exact ⟨⟨wc,(hc.block _ (rltT h1) (hF g (.inl rfl))).trans h1,h2.chg hc (λj e=>hF j (.inr (.inr (.inr e))))⟩,h3.chg hc (hF _ (.inr (.inl rfl))),h4.chg hc (hF _ (.inr (.inr (.inl rfl)))),h5,h6,h7,h8,h9,h10,h11⟩
theorem DkW.below {w':World} (h:DkW w g ml ms n on al wr sy wa B ws la sh) (hb:Below w.heap.size w w'):DkW w' g ml ms n on al wr sy wa B ws la sh:=h.chg (F:=λ_=>False) (ac hb) (λ_ _ f=>f)
theorem zA {b N:Nat} {f:Int→Option Value} (h:MpI w b N f):b<w.heap.size:=by obtain ⟨D,h1, -⟩:=h;exact h1.lt
theorem DkW.lt (h:DkW w g ml ms n on al wr sy wa B ws la sh):∀ j,DkF g ml ms wa j→j<w.heap.size:=by obtain ⟨⟨wc,h1,h2⟩,h3,h4, -⟩:=h;rintro j (rfl|rfl|rfl|e);exact rltT h1;exact zA h3;exact zA h4;exact h2.lt j e
def decA (al:Int):Int:=if 0<al then al-1 else al
theorem wH {al:Int} (h: -1≤al∧al≤9223372036854775807): -1≤decA al∧decA al≤9223372036854775807:=by unfold decA;split<;>omega
theorem DkW.apart (h:DkW w g ml ms n on al wr sy wa B ws la sh):ml≠g∧ms≠g∧(∀ j,blk wa=some j→j≠g∧j≠ml∧j≠ms):=by obtain ⟨⟨wc,h1,h2⟩,h3,h4, -⟩:=h;exact ⟨ey h3 h1,ey h4 h1,λj e=>⟨λe2=>neDW h2 h1 (by rw [e,e2]),λe2=>lG h3 h2 (by rw [e,e2]),λe2=>lG h4 h2 (by rw [e,e2])⟩⟩
theorem dkWrite (i:Int) (bs:List UInt8) {xa:Option Addr} {xc:Nat} (h:DkW w g ml ms n true al wr sy wa B ws la sh) (hb:Bts w xa bs) (hl:bs.length=512) (h0:0≤i) (h1:i<(n:Int)) (haz:al≠0) (hB:B+ws.length≤900000) (hw:wr≤900000) (hx:∀ j,blk xa=some j→j≠g):
  Calls prog 53 #[.pointer (some ⟨g,0,none⟩),.int .i64 i,.slice xa 512 xc] w λx w'=>x= .returned (.int .i64 0)∧∃ wa',DkW w' g ml ms n true (decA al) (wr+1) sy wa' (B+1) (ws++[(i,bs)]) la (updB sh i (some bs))∧Chg (DkF g ml ms wa) w w'∧∀ j,blk wa'=some j→blk wa=some j∨w.heap.size≤j:=by obtain ⟨ap1,ap2,ap3⟩:=h.apart;obtain ⟨⟨wc,r1,r2⟩,h3,h4,h5,h6,h7,h8,h9,h10,h11⟩:=h;have hwf:(Lit.int .i64 i).wf=true:=WalkArith.wf_i64 (by omega);refine (wN i bs ws r1 r2 h4 (by unfold maxLen;omega) hb hl h0 h1 hwf h9.1 h9.2 haz h10.1 (by omega) (by omega) hx).mono ?_;rintro _ w' ⟨rfl,wa',wc',q1,q2,q3,q4,q5⟩;refine ⟨rfl,wa',⟨⟨wc',by rw [aq,bM];exact q1,by rw [aq,bM];exact q2⟩,?_,?_,h5,?_,h7,?_,wH h9,⟨by omega,h10.2⟩,h11⟩,q4.mono (λj _ e=>?_),q5⟩;refine (h3.chg q4 ?_).up (Nat.le_succ _);rintro (e|e|e);exact ap1 e;exact h5 e;exact (ap3 _ e).2.1 rfl;rw [←kQ];exact q3;intro x hx2;rcases bE.1 hx2 with h|h;exact h6 x h;rw [bH] at h;subst h;exact ⟨hl,hwf⟩;exact kR h8 (λb hb2=>by cases hb2;exact hl);rcases e with e|e|e;exact .inl e;exact .inr (.inr (.inl e));exact .inr (.inr (.inr e))
theorem dkSync (h:DkW w g ml ms n true al wr sy wa B ws la sh) (haz:al≠0) (hB:B+ws.length≤900000) (hs:sy≤900000):
  Calls prog 54 #[.pointer (some ⟨g,0,none⟩)] w λx w'=>x= .returned (.int .i64 0)∧DkW w' g ml ms n true (decA al) wr (sy+1) none (B+ws.length) [] (setB la ws) (λ_=>none)∧Chg (DkF g ml ms wa) w w':=by obtain ⟨ap1,ap2,ap3⟩:=h.apart;obtain ⟨⟨wc,r1,r2⟩,h3,h4,h5,h6,h7,h8,h9,h10,h11⟩:=h;refine (zS ws r1 r2 h3 h4 h5 (by unfold maxLen;omega) (by omega) rfl (λx hx=>(h6 x hx).1) (λx hx=>(h6 x hx).2) h9.1 h9.2 h10.2 (by omega) haz).mono ?_;rintro _ w' ⟨rfl,q1,q2,q3,q4⟩;refine ⟨rfl,⟨⟨0,q1,ak eWr w'⟩,by rw [←xe];exact q2,q3.up (aV _),h5,λx hx=>(by cases hx),zX h7 (λx hx=>(h6 x hx).1),λk b hb=>(by cases hb),wH h9,⟨h10.1,by omega⟩,h11⟩,q4.mono (λj _ e=>?_)⟩;rcases e with e|e|e;exact .inl e;exact .inr (.inl e);exact .inr (.inr (.inl e))
theorem vv (h:DkW w g ml ms n true 0 wr sy wa B ws la sh):
  Calls prog 54 #[.pointer (some ⟨g,0,none⟩)] w λx w'=>x= .returned (.int .i64 17)∧DkW w' g ml ms n false (-1) wr sy wa B ws la sh∧Chg (DkF g ml ms wa) w w':=by obtain ⟨ap1,ap2,ap3⟩:=h.apart;obtain ⟨⟨wc,r1,r2⟩,h3,h4,h5,h6,h7,h8,h9,h10,h11⟩:=h;refine (wV r1).mono ?_;rintro _ w' ⟨rfl,q1,q2⟩;exact ⟨rfl,⟨⟨wc,q1,r2.chg q2 (λj e f=>(ap3 j e).1 f)⟩,h3.chg q2 ap1,h4.chg q2 ap2,h5,h6,h7,h8,by omega,h10,h11⟩,q2.mono (λj _ e=> .inl e)⟩
theorem tp (i:Int) {xa:Option Addr} {xc:Nat} (h:DkW w g ml ms n true 0 wr sy wa B ws la sh) (h0:0≤i) (h1:i<(n:Int)):
  Calls prog 53 #[.pointer (some ⟨g,0,none⟩),.int .i64 i,.slice xa 512 xc] w λx w'=>x= .returned (.int .i64 17)∧DkW w' g ml ms n false (-1) wr sy wa B ws la sh∧Chg (DkF g ml ms wa) w w':=by
   obtain ⟨ap1,ap2,ap3⟩:=h.apart;obtain ⟨⟨wc,r1,r2⟩,h3,h4,h5,h6,h7,h8,h9,h10,h11⟩:=h;have DY:=Hd (mX (by decide) (by decide) r1);rw [show decide ((0:Int)≠0)=false from rfl,bh rfl] at DY;have Cf:=Hd (lL i r1);rw [bp (show 0≤i∧i<(n:Int) from ⟨h0,h1⟩)] at Cf;obtain ⟨c0,c1,c2,c3,c4,c5,c6,c7, -⟩:=dg r1
   have HF:=Hd λw' (q1:w'.heap[g]?=some (rowD n ml (.slice wa ws.length wc) ms false (-1) wr sy)) (q2:Chg (λj=>j=g) w w')=>(show DkW w' g ml ms n false (-1) wr sy wa B ws la sh∧Chg (DkF g ml ms wa) w w' from
    ⟨⟨⟨wc,q1,r2.chg q2 (λj e f=>(ap3 j e).1 f)⟩,h3.chg q2 ap1,h4.chg q2 ap2,h5,h6,h7,h8,by omega,h10,h11⟩,q2.mono (λj _ e=> .inl e)⟩)
   clear r1 r2 h3 h4 h5 h6 h7 h8 h9 h10 h11 ap1 ap2 ap3 h0 h1;go_enter func53,ntmps53;go_wp2_with fail;refine Cf.out.mono ?_;rintro _ _ ⟨rfl,rfl⟩;go_wp2_with fail;refine DY.out.mono ?_;rintro _ w1 ⟨rfl,hr,hc⟩;have HR:=Hd hr;have HC:=Hd hc;clear hr hc;go_wp2_with fail;go_ret;exact ⟨rfl,HF.out _ HR.out HC.out⟩
theorem dkOn (bs:List Bool) {a:Option Addr} {c:Nat} (h:DkW w g ml ms n false al wr sy wa B ws la sh) (hB:B+ws.length≤900000) (hbs:BoolsAt w a bs):
  Calls prog 10 #[.pointer (some ⟨g,0,none⟩),.slice a bs.length c] w λx w'=>x= .returned (.tuple #[])∧DkW w' g ml ms n true al wr sy none (B+ws.length) [] (setK la (λj=>bs.getD j false) ws ws.length) (λ_=>none)∧Chg (DkF g ml ms wa) w w':=by obtain ⟨⟨wc,r1,r2⟩,h3,h4,h5,h6,h7,h8,h9,h10,h11⟩:=h;refine (don_any ws bs r1 r2 h3 h4 h5 (by unfold maxLen;omega) (by omega) rfl (λx hx=>(h6 x hx).1) (λx hx=>(h6 x hx).2) hbs).mono ?_;rintro _ w' ⟨rfl,q1,q2,q3,q4⟩;refine ⟨rfl,⟨⟨0,q1,ak eWr w'⟩,by rw [←oV];exact q2,q3.up (aV _),h5,λx hx=>(by cases hx),kS h7 (λx hx=>(h6 x hx).1) _,λk b hb=>(by cases hb),h9,h10,h11⟩,q4.mono (λj _ e=>?_)⟩;rcases e with e|e|e;exact .inl e;exact .inr (.inl e);exact .inr (.inr (.inl e))
theorem tQ (k:Int) (hk:k≤9223372036854775807) (h:DkW w g ml ms n on al wr sy wa B ws la sh):
  Calls prog 7 #[.pointer (some ⟨g,0,none⟩),.int .i64 k] w λx w'=>x= .returned (.tuple #[])∧DkW w' g ml ms n on (if on=true then max k (-1) else al) wr sy wa B ws la sh∧Chg (λj=>j=g) w w':=by obtain ⟨ap1,ap2,ap3⟩:=h.apart;obtain ⟨⟨wc,r1,r2⟩,h3,h4,h5,h6,h7,h8,h9,h10,h11⟩:=h;refine (arm_any k r1).mono ?_;rintro _ w' ⟨rfl,q1,q2⟩;exact ⟨rfl,⟨⟨wc,q1,r2.chg q2 (λj e f=>(ap3 j e).1 f)⟩,h3.chg q2 ap1,h4.chg q2 ap2,h5,h6,h7,h8,by split<;>omega,h10,h11⟩,q2⟩
theorem dkOff (h:DkW w g ml ms n on al wr sy wa B ws la sh):
  Calls prog 28 #[.pointer (some ⟨g,0,none⟩)] w λx w'=>x= .returned (.tuple #[])∧DkW w' g ml ms n false (-1) wr sy wa B ws la sh∧Chg (DkF g ml ms wa) w w':=by obtain ⟨ap1,ap2,ap3⟩:=h.apart;obtain ⟨⟨wc,r1,r2⟩,h3,h4,h5,h6,h7,h8,h9,h10,h11⟩:=h;refine (wk r1).mono ?_;rintro _ w' ⟨rfl,q1,q2⟩;exact ⟨rfl,⟨⟨wc,q1,r2.chg q2 (λj e f=>(ap3 j e).1 f)⟩,h3.chg q2 ap1,h4.chg q2 ap2,h5,h6,h7,h8,by omega,h10,h11⟩,q2.mono (λj _ e=> .inl e)⟩
theorem zE (h:DkW w g ml ms n on al wr sy wa B ws la sh):Calls prog 29 #[.pointer (some ⟨g,0,none⟩)] w λx w'=>x= .returned (.tuple #[.int .i64 wr,.int .i64 sy])∧Chg (λ_=>False) w w':=by obtain ⟨⟨wc,r1, -⟩, -⟩:=h;exact Bc r1
theorem zD (h:DkW w g ml ms n on al wr sy wa B ws la sh):Calls prog 9 #[.pointer (some ⟨g,0,none⟩)] w λx w'=>x= .returned (.bool on)∧w=w':=by obtain ⟨⟨wc,r1, -⟩, -⟩:=h;exact rT r1
theorem AQ (h:DkW w g ml ms n on al wr sy wa B ws la sh):Calls prog 32 #[.pointer (some ⟨g,0,none⟩)] w λx w'=>x= .returned (.int .i64 n)∧w=w':=by obtain ⟨⟨wc,r1, -⟩, -⟩:=h;exact fG r1
theorem DkW.at (h:DkW w g ml ms n true al wr sy wa B ws la (λ_=>none)):DkAt w g n (cS la):=by obtain ⟨⟨wc,r1,r2⟩,h3,h4,h5,h6,h7,h8,h9,h10,h11⟩:=h;exact ⟨ml,ms,_,_,_,al,wr,sy,λ_=>none,la,r1,h4,h3,h8,h7,λi h0 h1=>ue la i⟩
end
theorem iM (img:List UInt8) (n:Nat) {xa:Option Addr} {xc:Nat} {w:World} (hn:8≤n) (hn2:n≤65536) (hl:img.length=n*512) (hb:Bts w xa img) (hc:n*512≤xc):
  Calls prog 5 #[.slice xa img.length xc] w λx w'=>∃ g ml ms,x= .returned (.tuple #[.pointer (some ⟨g,0,none⟩),.int .i64 0])∧DkW w' g ml ms n true (-1) 0 0 none n [] (lasB img n) (λ_=>none)∧Below w.heap.size w w'∧w.heap.size≤g∧w.heap.size≤ml∧w.heap.size≤ms:=by rw [hl];refine (AJ img n hn hn2 hl hb hc).mono ?_;rintro _ w' ⟨g,ml,ms,rfl,h1,h2,h3,h4,h5,h6,h7,h8⟩;refine ⟨g,ml,ms,rfl,⟨⟨0,h1,ak eWr w'⟩,by rw [←pH];exact h2,h3.up (aV _),h8,λx hx=>(by cases hx),rS hl n (am _),λk b hb=>(by cases hb),by omega,by omega,hn2⟩,h4,h5,h6,h7⟩
theorem xj (w:World) (n:Nat) (hn:n≤140737488355328):(Instr.makeSlice 24 (.int .i64 (n:Int)) (.int .i64 (n:Int))).run prog w= .ok (.slice (some ⟨w.heap.size,0,none⟩) n n) (w.alloc (.cells (bZ (zs n)).toArray 5)):=by obtain ⟨i0,hi,hz0,hz1,hz2⟩:=info_parts eB.hi;have h:=run_make (P:=prog) (w:=w) 24 5 i0 (.int .u8 0) eB.hu hi hz0 .i64 .i64 (n:Int) (n:Int) (by omega) (by omega) (by rw [hz2];show (1:Int)*n≤_;omega) (by omega);rw [h,hz1];rw [show (n:Int).toNat*eB.size=n from by show (n:Int).toNat*1=n;omega,show (Value.int IntKind.u8 0).cells=#[.int .u8 0] from rfl,qi];rfl
def CpB (bs:List UInt8) (w:World) (e:Ending) (w':World):Prop:=∃ oa,e= .returned (.slice oa bs.length bs.length)∧OB w' oa bs.length bs∧(∀ k,blk oa=some k→w.heap.size≤k)∧Below w.heap.size w w'
theorem jN (bs:List UInt8) {a:Option Addr} {c:Nat} {w:World} (hl:bs.length≤100000000000) (hb:Bts w a bs):Calls prog 6 #[.slice a bs.length c] w (CpB bs w):=by
 have E8:=Hd hb;obtain ⟨n,hn⟩:∃ n,bs.length=n:=⟨_,rfl⟩;have HN:=Hd hn;have hmk:=xj w n (by omega);have HA:=Hd (az w (.cells (bZ (zs n)).toArray 5));have HB:=Hd (bY w (.cells (bZ (zs n)).toArray 5));unfold CpB;rw [hn];clear hn hb;generalize w.alloc (.cells (bZ (zs n)).toArray 5)=w1 at*;go_enter func6,ntmps6
 have HSRC:=Hd (show 0<(bZ bs).length→(some (⟨w.heap.size,0,none⟩:Addr))=some ⟨w.heap.size,0,none⟩∧∃ ad,a=some ad∧∀ j v,(bZ bs)[j]?=some v→w1.cell? (ad.add j)=some v from λhp=>by
  rcases E8.out with h|⟨b,off,h1,h2,h3⟩;subst h;simp [bZ] at hp
  ·refine ⟨rfl,_,h1,λj v hv=>?_⟩;(have hj:j<bs.length:=by rcases Nat.lt_or_ge j bs.length with h|h;exact h;rw [aP (by rw [b7];exact h)] at hv;cases hv);rw [cN,HB.out.cell (p:=⟨b,off+j,none⟩) h2,h3 j hj,←hv];unfold bZ;rw [aY,au,ap hj];rfl)
 go_wp2_with (refine wpList_copy_splice rfl (.tmp 7) (.tmp 8) 24 24 rfl 5 underlying24 sz1 _ _ n n n c rfl rfl w.heap.size 0 (bZ (zs n)) 5 HA.out (bZ bs) (by rw [b7,HN.out];exact (Nat.min_self n).symm) HSRC.out (by rw [b7,b7,HN.out,zs,aH];omega) (cE _) w.heap.size w HB.out (am _) ?_;intro w2 hD hb;have HD:=Hd hD.out;have Bd:=Hd hb;clear hD hb hmk);have hspl:splice (bZ (zs n)) 0 (bZ bs)=bZ bs:=by unfold splice;rw [aJ,a7,bN (by rw [b7,b7,HN.out,zs,aH];omega),bC]
 rw [hspl] at HD;go_ret;refine ⟨_,rfl,OR.mk (rest:=[]) (by rw [b7];exact (Nat.mul_one _).symm) (by rw [HN.out];exact am _) (by have:=HN.out;unfold maxLen;omega) (by rw [bC];exact HD.out) (by rw [bC,b7,HN.out];exact (Nat.mul_one _).symm),λk e=>by cases e;exact am _,Bd.out⟩
theorem nQ (w:World):Calls prog 25 #[] w λe w'=>e= .returned (.agg #[.slice none 0 0,.slice none 0 0,.bool true])∧Below w.heap.size w w':=by go_enter func25,ntmps25;go_wp2_with (refine cu rfl 78 rfl #[.slice none 0 0,.slice none 0 0,.bool false] (λw=>by kernel_rfl) ?_;intro w1 hR hb;have Bh:=Hd hb;have Br:=Hd hR;obtain ⟨z0,z1,z2,z3⟩:=cY hR;have f0:=z3 0;have f1:=z3 1;have f2:=z3 2;clear hR hb z3);have h0:=ay _ w.heap.size 0 _ _ (.slice none 0 0) Br.out;simp only [LA,LZ,LS] at h0;have h1:=ay _ w.heap.size 1 _ _ (.slice none 0 0) h0;simp only [LA,LZ,LS] at h1;have h2:=ay _ w.heap.size 2 _ _ (.bool true) h1;simp only [LA,LZ,LS] at h2;obtain ⟨y0,y1,y2⟩:=row3 h2;have hc:=(((ae (λj=>j=w.heap.size) w1).setCell ⟨w.heap.size,0,none⟩ (.slice none 0 0) (λ_=>rfl)).setCell ⟨w.heap.size,1,none⟩ (.slice none 0 0) (λ_=>rfl)).setCell ⟨w.heap.size,2,none⟩ (.bool true) (λ_=>rfl);exact bodyPost_ret (v:= .agg #[.slice none 0 0,.slice none 0 0,.bool true]) (by simp [results,results25,go_sem,y0,y1,y2]) rfl ⟨rfl,aa Bh.out hc⟩
theorem tW (i:Int) (w:World):Calls prog 219 #[.int .i64 i] w λe w'=>e= .returned (.int .i64 i)∧w'=w:=by go_enter func219,ntmps219;go_wp2_with fail;go_ret;exact ⟨rfl,rfl⟩
def NewZ (bs:List UInt8) (w:World) (e:Ending) (w':World):Prop:=∃ a c,e= .returned (.slice a 512 c)∧OB w' a c bs∧(∀ k,blk a=some k→w.heap.size≤k)∧Below w.heap.size w w'
theorem tV (i:Int) (w:World):Calls prog 220 #[.int .i64 i] w (NewZ (zs 512) w):=by have hmk:=dH w;have HO:=Hd (OB.made w (zs 512) (by simp [zs,maxLen]));have HB:=Hd (bY w (.cells (bZ (zs 512)).toArray 5));rw [show (zs 512).length=512 from by simp [zs]] at HO;go_enter func220,ntmps220;go_wp2_with fail;go_ret;exact ⟨_,_,rfl,HO.out,λk e=>by cases e;exact am _,HB.out⟩
theorem vn (i:Int) (v:Value) (w:World):Calls prog 221 #[.agg #[.int .i64 i,v]] w λe w'=>e= .returned (.int .i64 i)∧Below w.heap.size w w':=by go_enter func221,ntmps221;go_wp2_with (refine cL rfl 133 (.tmp 0) rfl #[.int .i64 i,v] rfl ?_;intro w1 hR hb;have HB:=Hd hb;obtain ⟨z0,z1⟩:=row2 hR;clear hR hb);go_ret;exact ⟨rfl,HB.out⟩
theorem vm (i:Int) (v:Value) (w:World):Calls prog 222 #[.agg #[.int .i64 i,v]] w λe w'=>e= .returned v∧Below w.heap.size w w':=by go_enter func222,ntmps222;go_wp2_with (refine cL rfl 133 (.tmp 0) rfl #[.int .i64 i,v] rfl ?_;intro w1 hR hb;have HB:=Hd hb;obtain ⟨z0,z1⟩:=row2 hR;clear hR hb);go_ret;exact ⟨rfl,HB.out⟩
abbrev WB:=Int×List UInt8
def LdAt (lo:Nat) (w:World) (v:Value) (x:WB):Prop:=
 x.2.length=512∧((v= .iface 105 (.int .i64 x.1)∧x.2=zs 512)∨∃ a c,v= .iface 133 (.agg #[.int .i64 x.1,.slice a 512 c])∧OB w a c x.2∧∀ k,blk a=some k→lo≤k)
theorem LdAt.chg {F:Nat→Prop} {lo:Nat} {w w':World} {v:Value} {x:WB} (h:LdAt lo w v x) (hc:Chg F w w') (hF:∀ k,F k→k<lo):LdAt lo w' v x:=by obtain ⟨h1,h2|⟨a,c,h2,h3,h4⟩⟩:=h;exact ⟨h1,.inl h2⟩;exact ⟨h1,.inr ⟨a,c,h2,h3.chg hc (λk e f=>by have:=hF _ f;have:=h4 k e;omega),h4⟩⟩
theorem LdAt.below {lo:Nat} {w w':World} {v:Value} {x:WB} (h:LdAt lo w v x) (hb:Below w.heap.size w w'):LdAt lo w' v x:=h.chg (F:=λ_=>False) (ac hb) (λ_ f=>f.elim)
def eLd:Elt:={t:=93,e:=144,size:=1,bytes:=16,z:= .nilIface,hu:=underlying93,hi:=by kernel_rfl,hz:=rfl,h0:=by decide}
def eBt:Elt:={t:=142,e:=93,size:=1,bytes:=24,z:= .slice none 0 0,hu:=underlying142,hi:=by kernel_rfl,hz:=rfl,h0:=by decide}
def BtAt (lo:Nat) (w:World) (a:Option Addr) (c:Nat) (xs:List WB):Prop:=
 ∃ zs:List (WB×Value),zs.map (·.1)=xs∧OR eLd w a c zs.length (zs.map (·.2))∧(∀ z∈zs,LdAt lo w z.2 z.1)∧∀ k,blk a=some k→lo≤k
theorem BtAt.chg {F:Nat→Prop} {lo:Nat} {w w':World} {a:Option Addr} {c:Nat} {xs:List WB} (h:BtAt lo w a c xs) (hc:Chg F w w') (hF:∀ k,F k→k<lo):BtAt lo w' a c xs:=by obtain ⟨zs,h1,h2,h3,h4⟩:=h;exact ⟨zs,h1,h2.chg hc (λk e f=>by have:=hF _ f;have:=h4 k e;omega),λz hz=>(h3 z hz).chg hc hF,h4⟩
theorem BtAt.below {lo:Nat} {w w':World} {a:Option Addr} {c:Nat} {xs:List WB} (h:BtAt lo w a c xs) (hb:Below w.heap.size w w'):BtAt lo w' a c xs:=h.chg (F:=λ_=>False) (ac hb) (λ_ f=>f.elim)
def BtsAt (lo:Nat) (w:World) (a:Option Addr) (c:Nat) (L:List (List WB)):Prop:=
 ∃ zs:List (List WB×(Option Addr×Nat)),zs.map (·.1)=L∧OR eBt w a c zs.length (zs.map λz=> .slice z.2.1 z.1.length z.2.2)∧(∀ z∈zs,BtAt lo w z.2.1 z.2.2 z.1)∧∀ k,blk a=some k→lo≤k
theorem BtsAt.chg {F:Nat→Prop} {lo:Nat} {w w':World} {a:Option Addr} {c:Nat} {L:List (List WB)} (h:BtsAt lo w a c L) (hc:Chg F w w') (hF:∀ k,F k→k<lo):BtsAt lo w' a c L:=by obtain ⟨zs,h1,h2,h3,h4⟩:=h;exact ⟨zs,h1,h2.chg hc (λk e f=>by have:=hF _ f;have:=h4 k e;omega),λz hz=>(h3 z hz).chg hc hF,h4⟩
end Go.Proofs.YtchbedbmjiabgaaGreatDoor
