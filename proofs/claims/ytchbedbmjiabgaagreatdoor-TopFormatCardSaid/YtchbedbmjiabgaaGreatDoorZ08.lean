/- TopFormat, part 8 of the proof: BkBlk BkBlW PChk CmpQ DChk. No condition. -/
import Derived.Test.YtchbedbmjiabgaaGreatDoorZ07
set_option linter.all false
set_option maxHeartbeats 16000000
set_option maxRecDepth 100000
namespace Go.Proofs.YtchbedbmjiabgaaGreatDoor.Wi.Ba
open Go.RowKit Go.Proofs.Tryz
theorem lI {xs:List UInt8} {o k:Nat} (h:o+k≤xs.length):(⟨xs.drop o,0⟩:RS).get k=(fld xs o k,⟨xs.drop (o+k),0⟩):=by unfold RS.get;rw [bg (by simp),bg (by simp only [aL];omega)];simp only [bT];rfl
theorem eQ {bs:List UInt8} {o k n:Nat} (h:o+k≤n):fld (bs.take n) o k=fld bs o k:=by unfold fld;rw [List.drop_take,List.take_take,Nat.min_eq_left (by omega)]
theorem sN {bs:List UInt8} {o n m:Nat} (h:o+2*n≤m):eL (bs.take m) o n=eL bs o n:=by unfold eL;apply List.map_congr_left;intro k hk;rw [List.mem_range] at hk;exact eQ (by omega)
theorem zerosR (lo hi p:Nat) (s:RS) (w:World) (h:RAt lo hi p s w):
  Calls prog 146 #[.pointer (some ⟨p,0,none⟩)] w λx w'=>x= .returned (.tuple #[])∧RAt lo hi p s.zeros w'∧Chg (λj=>lo≤j∧j<hi) w w':=by obtain ⟨a,cap,h1,h2,h3⟩:=h;refine (uh p a cap s w h1).mono ?_;rintro _ w' ⟨rfl,h4⟩;exact ⟨rfl,RAt.aft h2 h3 h4⟩
theorem endR (lo hi p:Nat) (s:RS) (w:World) (h:RAt lo hi p s w):
  Calls prog 147 #[.pointer (some ⟨p,0,none⟩)] w λx w'=>x= .returned (.int .i64 (s.ending:Int))∧w=w':=by obtain ⟨a,cap,h1,h2,h3⟩:=h;exact end_any p a cap s w h1
theorem vq {l:List UInt8} (h:l.all (· ==0)=true):(⟨l,0⟩:RS).zeros.ending=0:=by
 have h2:l.any (· != 0)=false:=by rw [List.any_eq_false];intro x hx;have:=List.all_eq_true.1 h x hx;simpa using this
 have hz:(⟨l,0⟩:RS).zeros=⟨[],0⟩:=by show (if (0:Nat)≠0 then (⟨l,0⟩:RS) else if l.any (· != 0) then (⟨l,5⟩:RS) else ⟨[],0⟩)=_;rw [bg (by simp),h2];rfl
 rw [hz];rfl
theorem vp {l:List UInt8} (h:l.all (· ==0)=false):(⟨l,0⟩:RS).zeros.ending=5:=by
 have h2:l.any (· != 0)=true:=by rw [List.all_eq_false] at h;obtain ⟨x,hx,h⟩:=h;rw [List.any_eq_true];exact ⟨x,hx,by simpa using h⟩
 have hz:(⟨l,0⟩:RS).zeros=⟨l,5⟩:=by show (if (0:Nat)≠0 then (⟨l,0⟩:RS) else if l.any (· != 0) then (⟨l,5⟩:RS) else ⟨[],0⟩)=_;rw [bg (by simp),h2];rfl
 rw [hz];unfold RS.ending;rw [bg (by simp)]
end Go.Proofs.YtchbedbmjiabgaaGreatDoor.Wi.Ba
namespace Go.Proofs.YtchbedbmjiabgaaGreatDoor
open Go.RowKit Go.Proofs.Tryz Go.Proofs.YtchbedbmjiabgaaGreatDoor.Wi.Ba
theorem Bts.cut {w:World} {b off:Nat} {bs:List UInt8} (h:Bts w (some ⟨b,off,none⟩) bs) (o n:Nat):Bts w (some ⟨b,off+o,none⟩) ((bs.drop o).take n):=by by_cases hn:(bs.drop o).take n=[];exact .inl hn;rcases h with h|⟨b2,o2,h1,h2,h3⟩;rw [h] at hn;simp at hn;cases h1;refine .inr ⟨b,off+o,rfl,h2,λi hi=>?_⟩;rw [aC,aL] at hi;have:=h3 (o+i) (by omega);rw [Nat.add_assoc,this,au,au,bI (by omega),List.getElem?_drop]
end Go.Proofs.YtchbedbmjiabgaaGreatDoor
namespace Go.Proofs.YtchbedbmjiabgaaGreatDoor.Wi.Ba
open Go.RowKit Go.Proofs.Tryz
def ints (xs:List Nat):List Int:=xs.map λ(x:Nat)=>((x:Nat):Int)
theorem ints_length (xs:List Nat):(ints xs).length=xs.length:=by simp [ints]
def BlkP (r:Int×List Nat) (w:World) (e:Ending) (w':World):Prop:=
 ∃ oa cap,e= .returned (.tuple #[.slice oa r.2.length cap,.int .i64 r.1])∧ON w' oa cap (ints r.2)∧(∀ k,blk oa=some k→w.heap.size≤k)∧Below w.heap.size w w'
theorem gR {w w':World} {e:Int} (hb:Below w.heap.size w w'):BlkP (e,[]) w (.returned (.tuple #[.slice none 0 0,.int .i64 e])) w':=
 ⟨none,0,rfl,ak eN _,λk hk=>(by cases hk),hb⟩
def ri (W:World) (lo hi p:Nat) (xs:List UInt8) (n:Nat) (o v:Value) (wr:World):Prop:=
 ∃ (k:Nat) (oa:Option Addr) (oc:Nat),k≤n∧v= .int .i64 k∧o= .slice oa k oc∧RAt lo hi p ⟨xs.drop (17+2*k),0⟩ wr∧OR eN wr oa oc k (cj (ints (eL xs 17 k)))∧(∀ j,blk oa=some j→hi≤j)∧Below W.heap.size W wr∧hi≤wr.heap.size
theorem gF {W w1 w2 w':World} {lo hi p:Nat} {xs:List UInt8} {n k:Nat} {oa oa':Option Addr} {oc' x:Nat} (hk:k<n) (hlo:W.heap.size≤lo) (hlh:lo≤hi) (hB:Below W.heap.size W w1) (hc:Chg (λj=>lo≤j∧j<hi) w1 w2) (hR:RAt lo hi p ⟨xs.drop (17+2*k+2),0⟩ w2) (hz:hi≤w2.heap.size)
  (hof:∀ j,blk oa=some j→hi≤j) (hx:fld xs (17+2*k) 2=x) (hO:OR eN w' oa' oc' (k+1) (cj (ints (eL xs 17 k))++[.int .i64 (x:Int)])) (hC:Chg (λj=>blk oa=some j) (w2.alloc (.cells #[.int .i64 (x:Int)] 3)) w') (hb:blk oa'=blk oa∨blk oa'=some (w2.alloc (.cells #[.int .i64 (x:Int)] 3)).heap.size) {v:Value} (hv:v= .int .i64 ((k+1:Nat):Int)):
  ri W lo hi p xs n (.slice oa' (k+1) oc') v w':=by subst hv;have ha:=bY w2 (.cells #[.int .i64 (x:Int)] 3);have hB2:=hB.trans (hc.below hB.size (λj e=>by omega));have hB3:=hB2.trans (ha.mono hB2.size);refine ⟨k+1,oa',oc',hk,rfl,rfl,?_,?_,λj e=>?_,hB3.trans (hC.below hB3.size (λj e=>by have:=hof j e;omega)),?_⟩;have:=(hR.chg (F:=λ_=>False) (ac ha) (λ_ f=>f.elim)).chg hC (λj e=>by have:=hof j e;omega);rw [show 17+2*(k+1)=17+2*k+2 by omega];exact this;rw [sO,hx];simp only [ints,cj,aW,a9,List.map_nil] at hO⊢;exact hO;rcases hb with hb|hb;exact hof j (hb▸e);rw [hb] at e;cases e;exact ao hz ha.size;exact ao (ao hz ha.size) hC.size
theorem tA (gen pages i:Int) (a:Option Addr) (cap:Nat) (bs:List UInt8) (w:World) (hp:pages≤9223372036854775807) (h:¬ mayB gen pages i):
  Calls prog 111 #[.int .i64 gen,.int .i64 pages,.int .i64 i,.slice a bs.length cap] w (BlkP (bblock gen pages i bs) w):=by
   have HE:=Hd (show bblock gen pages i bs=(1,[]) by unfold bblock;rw [bg h]);rw [HE.out];have HM:=Hd λw1=>kM gen pages w1;have HB:=Hd λw1=>fG pages hp w1;generalize bs.length=n;unfold mayB at h;by_cases hm:(0≤gen∧gen≤1099511627776)∧0≤pages∧pages≤65536
   ·rw [bp hm] at HM;by_cases hi:i<0;(focus clear h hm;go_enter func111,ntmps111;go_wp2_with (first|(go_at_call 144;refine (HM.out _).mono ?_;rintro _ _ ⟨rfl,rfl⟩)));rotate_left;(focus (have hge:((nblocks pages.toNat:Nat):Int)≤i:=by obtain ⟨h1,h2,h3⟩:=hm;apply Int.not_lt.1;intro hlt;exact h ⟨h1,⟨h2,h3⟩,by omega,hlt⟩);generalize ((nblocks pages.toNat:Nat):Int)=nb at*;clear h hm;go_enter func111,ntmps111;go_wp2_with (first|(go_at_call 144;refine (HM.out _).mono ?_;rintro _ _ ⟨rfl,rfl⟩)|(go_at_call 66;refine (HB.out _).mono ?_;rintro _ _ ⟨rfl,rfl⟩)));all_goals refine bodyPost_ret (v:= .tuple #[.slice none 0 0,.int .i64 1]) (by simp [results,results111,go_sem]) rfl ?_;exact gR (aA _ _)
   ·rw [bo hm] at HM;clear h hm;go_enter func111,ntmps111;go_wp2_with (first|(go_at_call 144;refine (HM.out _).mono ?_;rintro _ _ ⟨rfl,rfl⟩));refine bodyPost_ret (v:= .tuple #[.slice none 0 0,.int .i64 1]) (by simp [results,results111,go_sem]) rfl ?_;exact gR (aA _ _)
theorem AW {w W:World} {n:Nat} {l:List Nat} {oa:Option Addr} {oc:Nat} (hl:l.length=n) (hO:OR eN W oa oc n (cj (ints l))) (ho:∀ k,blk oa=some k→w.heap.size≤k) (hb:Below w.heap.size w W):BlkP (0,l) w (.returned (.tuple #[.slice oa n oc,.int .i64 0])) W:=by subst hl;exact ⟨oa,oc,rfl,by unfold ON;rw [ints_length];exact hO,ho,hb⟩
theorem vF (gen pages i:Nat) (a:Option Addr) (cap:Nat) (bs:List UInt8) (w:World) (hg:gen≤1099511627776) (hp:pages≤65536) (hi:i<nblocks pages) (hcap:bs.length≤cap) (hll:bs.length≤140737488355328) (hb:Bts w a bs):
  Calls prog 111 #[.int .i64 (gen:Int),.int .i64 (pages:Int),.int .i64 (i:Int),.slice a bs.length cap] w (BlkP (bread gen pages i bs) w):=by
   have HM:=Hd λw1=>kM gen pages w1;rw [bp (show (0≤(gen:Int)∧(gen:Int)≤1099511627776)∧0≤(pages:Int)∧(pages:Int)≤65536 by omega)] at HM;have HB:=Hd λw1=>fG (pages:Int) (by omega) w1;rw [Int.toNat_natCast] at HB;(have hi240:i*240≤pages:=by unfold nblocks at hi;omega);(have hil:i≤300:=by unfold nblocks at hi;omega);(have hiI:¬ ((nblocks pages:Nat):Int)≤(i:Int):=by omega);by_cases h5:bs.length=512;rotate_left
   ·have HE:=Hd (show bread gen pages i bs=(16,[]) by unfold bread;rw [bh h5]);rw [HE.out];(have hl1:((bs.length:Int) != 512)=true:=by rw [bO];omega);generalize bs.length=n at*;generalize ((nblocks pages:Nat):Int)=nb at*;clear hi hb;go_enter func111,ntmps111;go_wp2_with (first|(go_at_call 144;refine (HM.out _).mono ?_;rintro _ _ ⟨rfl,rfl⟩)|(go_at_call 66;refine (HB.out _).mono ?_;rintro _ _ ⟨rfl,rfl⟩));refine bodyPost_ret (v:= .tuple #[.slice none 0 0,.int .i64 16]) (by simp [results,results111,go_sem]) rfl ?_;exact gR (aA _ _)
   (have hlt:(bs.take 508).length=508:=by rw [aC];omega);(have hld:(bs.drop 508).length=4:=by rw [aL];omega);obtain ⟨b,off,rfl,hbw, -⟩:=hb.at (k:=0) (by omega);have hbt:=hb.cut 0 508;have hbd:=hb.cut 508 4;rw [ax,Nat.add_zero] at hbt;rw [av (by omega)] at hbd;have HNR:=Hd λw1 (h:Below w.heap.size w w1)=>fP (some ⟨b,off+508,none⟩) (cap-508) (bs.drop 508) w1 (hbd.below h) (λe=>by cases e) (by omega);have Cy:=Hd λw1 (h:Below w.heap.size w w1)=>fP (some ⟨b,off,none⟩) cap (bs.take 508) w1 (hbt.below h) (λe=>by cases e) (by omega);have EU:=Hd λw1 (h:Below w.heap.size w w1)=>iF (bs.take 508) (some ⟨b,off,none⟩) cap (by omega) w1 (hbt.below h);rw [hlt] at Cy EU;rw [hld] at HNR;unfold NewR at HNR Cy;(have hv4:((⟨bs.drop 508,0⟩:RS).get 4).1=unle (bs.drop 508):=by have:=lI (xs:=bs) (o:=508) (k:=4) (by omega);rw [this];unfold fld;rw [av (by omega)]);(have hul:unle (bs.drop 508)<4294967296:=by have:=dV (bs.drop 508);rw [hld] at this;exact this);have hofl:=Crc.ofs_lt (bs.take 508)
   have HR:=Hd (show bread gen pages i bs=if unle (bs.drop 508)≠Crc.ofs (bs.take 508) then (6,[]) else if fld (bs.take 508) 0 1≠66 then (5,[]) else if ¬ (fld (bs.take 508) 1 8=gen∧fld (bs.take 508) 9 4=i∧fld (bs.take 508) 13 4=pages) then (25,[])
     else if ((bs.take 508).drop (17+2*inBlk pages i)).all (· ==0)=false then (5,[]) else (0,eL (bs.take 508) 17 (inBlk pages i)) by
    have:=inBlk_le pages i
    unfold bread
    rw [bg (by simp [h5]),eQ (by omega),eQ (by omega),eQ (by omega),eQ (by omega),sN (by omega)])
   have Db:=Hd hv4;rw [h5] at hcap⊢;(have hc1:(508:Int)≤(cap:Int):=by omega);(have hc2:(512:Int)≤(cap:Int):=by omega);(have hc3:((cap:Int)-508).toNat=cap-508:=by omega);generalize hsv:unle (bs.drop 508)=sv at*;generalize Crc.ofs (bs.take 508)=sm at*;generalize bs.take 508=xs at*;have Eu:=Hd λw1=>tL pages i hp hi240 w1;have hn240:=inBlk_le pages i;generalize inBlk pages i=n at*;generalize ((nblocks pages:Nat):Int)=nb at*;have En:=Hd hlt;clear hb hbt hbd hi h5 hld hsv hv4 hlt hbw hll;go_enter func111,ntmps111;go_wp2_with (first|(go_at_call 144;refine (HM.out _).mono ?_;rintro _ wx ⟨rfl,e0⟩;rw [e0];clear e0 wx)|(go_at_call 66;refine (HB.out _).mono ?_;rintro _ wx ⟨rfl,e0⟩;rw [e0];clear e0 wx));go_quiet (fail);have BI:=Hd (cC (aA w.heap.size w) nq);generalize w.drewN nq=W0 at BI⊢;clear HM HB hc1 hc2 hc3 hcap;go_wp2_with fail;refine (HNR.out _ BI.out).mono ?_;rintro _ w1 ⟨p,ra,rc,rfl,hI,hp1,ha1,hb1⟩;have hR1:RAt W0.heap.size w1.heap.size p ⟨bs.drop 508,0⟩ w1:=⟨ra,rc,hI,⟨hp1,hI.lt⟩,λk hk=>⟨ha1 k hk,hI.2.2.2.2.2.2.2 k hk⟩⟩;have Bh:=Hd (BI.out.trans (hb1.mono BI.out.size));have H:=Hd (fX _ _ _ _ w1 hR1);unfold Gets at H;rw [Db.out] at H;have hs0:=BI.out.size;clear hI hp1 ha1 hb1 hR1 HNR;go_wp2_with fail;refine H.out.mono ?_;clear H;rintro _ w2 ⟨rfl, -,hc2⟩;have Bd:=Hd (Bh.out.trans (hc2.below Bh.out.size (λj e=>by omega)));clear hc2 Bh BI hs0;go_wp2_with fail;refine (EU.out _ Bd.out).mono ?_;rintro _ w3 ⟨rfl,hb3⟩;have Bi:=Hd (Bd.out.trans (hb3.mono Bd.out.size));clear hb3 Bd EU;by_cases hss:sv=sm;rotate_left
   ·have HE:=Hd (show bread gen pages i bs=(6,[]) by rw [HR.out,bh hss]);(have hsd:((sv:Int) != (sm:Int))=true:=by rw [bO];omega);go_wp2_with fail;refine bodyPost_ret (v:= .tuple #[.slice none 0 0,.int .i64 6]) (by simp [results,results111,go_sem]) rfl ?_;rw [HE.out];exact gR Bi.out
   rw [bg (by simpa using hss)] at HR;subst hss;(have hsd:((sv:Int) != (sv:Int))=false:=by simp);go_wp2_with fail;refine (Cy.out _ Bi.out).mono ?_;rintro _ w4 ⟨p,ra,rc,rfl,hI,hp1,ha1,hb4⟩;have hR4:RAt w3.heap.size w4.heap.size p ⟨xs.drop 0,0⟩ w4:=⟨ra,rc,by rw [ax];exact hI,⟨hp1,hI.lt⟩,λk hk=>⟨ha1 k hk,hI.2.2.2.2.2.2.2 k hk⟩⟩;have hs3:=Bi.out.size;have hs4:=hb4.size;have Be:=Hd (Bi.out.trans (hb4.mono Bi.out.size));have hz4:w4.heap.size≤w4.heap.size:=am _;generalize w3.heap.size=lo at*;generalize hhi:w4.heap.size=hi at hR4 hs4;(have hz4:hi≤w4.heap.size:=by omega);clear hhi;have H:=Hd (qX _ _ _ _ w4 hR4);unfold Gets at H;rw [lI (by rw [En.out];decide)] at H;simp only [bP] at H;have hf0:=fY xs 0 1;have hf1:=fY xs 1 8;have hf2:=fY xs 9 4;have hf3:=fY xs 13 4;generalize fld xs 0 1=f0 at*;clear hI hp1 ha1 hb4 hR4 Cy Bi;go_wp2_with fail;refine H.out.mono ?_;clear H;rintro _ w5 ⟨rfl,hR5,hc5⟩;have Bj:=Hd (Be.out.trans (hc5.below Be.out.size (λj e=>by omega)));have hz5:hi≤w5.heap.size:=ao hz4 hc5.size;clear hc5 Be hz4;by_cases h66:f0=66;rotate_left
   ·have HE:=Hd (show bread gen pages i bs=(5,[]) by rw [HR.out,bh h66]);(have hsd:((f0:Int) != 66)=true:=by rw [bO];omega);go_wp2_with fail;refine bodyPost_ret (v:= .tuple #[.slice none 0 0,.int .i64 5]) (by simp [results,results111,go_sem]) rfl ?_;rw [HE.out];exact gR Bj.out
   rw [bg (by simpa using h66)] at HR;(have h66d:((f0:Int) != 66)=false:=by rw [bne_eq_false_iff_eq];omega);have H:=Hd (tN _ _ _ _ w5 hR5);unfold Gets at H;rw [lI (by rw [En.out];decide)] at H;simp only [show (1+8:Nat)=9 from rfl] at H;generalize fld xs 1 8=f1 at*;clear hR5 h66;go_wp2_with fail;refine H.out.mono ?_;clear H;rintro _ w6 ⟨rfl,hR6,hc6⟩;have Bg:=Hd (Bj.out.trans (hc6.below Bj.out.size (λj e=>by omega)));have hz6:hi≤w6.heap.size:=ao hz5 hc6.size;have H:=Hd (fX _ _ _ _ w6 hR6);unfold Gets at H;rw [lI (by rw [En.out];decide)] at H;simp only [show (9+4:Nat)=13 from rfl] at H;generalize fld xs 9 4=f2 at*;clear hR6 hc6 Bj hz5;go_wp2_with fail;refine H.out.mono ?_;clear H;rintro _ w7 ⟨rfl,hR7,hc7⟩;have Bq:=Hd (Bg.out.trans (hc7.below Bg.out.size (λj e=>by omega)));have hz7:hi≤w7.heap.size:=ao hz6 hc7.size;have H:=Hd (fX _ _ _ _ w7 hR7);unfold Gets at H;rw [lI (by rw [En.out];decide)] at H;simp only [show (13+4:Nat)=17 from rfl] at H;generalize fld xs 13 4=f3 at*;clear hR7 hc7 Bg hz6;go_wp2_with fail;refine H.out.mono ?_;clear H;rintro _ w8 ⟨rfl,hR8,hc8⟩;have Ct:=Hd (Bq.out.trans (hc8.below Bq.out.size (λj e=>by omega)));have hz8:hi≤w8.heap.size:=ao hz7 hc8.size;have Er:=Hd hR8;clear hR8 hc8 Bq hz7;by_cases hall:f1=gen∧f2=i∧f3=pages;rotate_left
   ·have HE:=Hd (show bread gen pages i bs=(25,[]) by rw [HR.out,bh hall]);by_cases k1:f1=gen
    ·(have k1d:((f1:Int) != (gen:Int))=false:=by rw [bne_eq_false_iff_eq];omega);by_cases k2:f2=i;(focus (have k2d:((f2:Int) != (i:Int))=false:=by rw [bne_eq_false_iff_eq];omega);have k3d:((f3:Int) != (pages:Int))=true:=by rw [bO];omega);rotate_left;(focus have k2d:((f2:Int) != (i:Int))=true:=by rw [bO];omega);all_goals clear k1 k2 hall;go_wp2_with fail;refine bodyPost_ret (v:= .tuple #[.slice none 0 0,.int .i64 25]) (by simp [results,results111,go_sem]) rfl ?_;rw [HE.out];exact gR Ct.out
    ·(have k1d:((f1:Int) != (gen:Int))=true:=by rw [bO];omega);clear k1 hall;go_wp2_with fail;refine bodyPost_ret (v:= .tuple #[.slice none 0 0,.int .i64 25]) (by simp [results,results111,go_sem]) rfl ?_;rw [HE.out];exact gR Ct.out
   rw [bg (λh=>h hall)] at HR;obtain ⟨rfl,rfl,rfl⟩:=hall;(have k1d:((f1:Int) != (f1:Int))=false:=by simp);(have k2d:((f2:Int) != (f2:Int))=false:=by simp);(have k3d:((f3:Int) != (f3:Int))=false:=by simp);go_wp2_with fail;refine (Eu.out _).mono ?_;rintro _ wx ⟨rfl,e0⟩;rw [e0];clear e0 wx Eu;go_wp2_with fail;go_loopw [17,76] (λo v wr=>ri w lo hi p xs n o v wr) (λ_ v _=>n-(intOf v).toNat);case atStart=>exact ⟨0,none,0,aV _,rfl,rfl,Er.out,ak eN _,λj e=>(by cases e),Ct.out,hz8⟩
   case round=>
    clear Er Ct hz8;obtain ⟨k,oa,oc,hk,rfl,rfl,hR,hO,hof,hB,hz⟩:=hrel;by_cases hkn:k<n
    ·have H:=Hd (getR16 _ _ _ _ wr hR);unfold Gets at H;rw [lI (by rw [En.out];omega)] at H;simp only at H;have hxl:=fY xs (17+2*k) 2;have HXE:=Hd (show fld xs (17+2*k) 2=fld xs (17+2*k) 2 from rfl);generalize hxx:fld xs (17+2*k) 2=x at H hxl;have HX:=Hd hxx;have HO:=Hd hO;have HB:=Hd hB;have Eu:=Hd hof;have HJ:=Hd hkn;clear hR hO hof hB hxx HXE;go_wp2_with fail;refine H.out.mono ?_;clear H;rintro _ w9 ⟨rfl,hR9,hc9⟩;have D5:=Hd hR9;have Ey:=Hd hc9;have hz9:hi≤w9.heap.size:=ao hz hc9.size;have ha:=bY w9 (.cells #[.int .i64 (x:Int)] 3);have GF:=Hd (aj (F:=λ_=>False) (HO.out.chg hc9 (λj e f=>by have:=Eu.out j e;omega)) (ac ha) (λ_ _ f=>f));have BR:=Hd (fv w9 (.int .i64 (x:Int)) 3);clear hR9 hc9 ha HO;go_wp2_with (at_builtin;go_must (refine cg eN rfl (.tmp 78) (.tmp 82) rfl rfl GF.out rfl (m:=1) (news:=[.int .i64 (x:Int)]) rfl (.inr ⟨_,rfl,BR.out⟩) (by simp [Value.oneCell']) (by show (k+1)*8≤_;omega) (by omega) ?_);intro oa2 oc2 w10 hO10 hC10 hb10 _);go_roundw;(case rel=>exact gF HJ.out hs3 hs4 HB.out Ey.out D5.out hz9 Eu.out HX.out hO10 hC10 hb10 (by go_num));case measure=>exact kL HJ.out
    ·(obtain rfl:k=n:=by omega);have H:=Hd (zerosR _ _ _ _ wr hR);have HO:=Hd hO;have HB:=Hd hB;have Eu:=Hd hof;clear hR hO hof hB hkn;go_wp2_with fail;refine H.out.mono ?_;clear H;rintro _ w9 ⟨rfl,hR9,hc9⟩;have Cd:=Hd (HB.out.trans (hc9.below HB.out.size (λj e=>by omega)));have GF:=Hd (HO.out.chg hc9 (λj e f=>by have:=Eu.out j e;omega));have H:=Hd (endR _ _ _ _ w9 hR9);clear hR9 hc9 HB HO;by_cases hzz:(xs.drop (17+2*k)).all (· ==0)=true
     ·rw [vq hzz] at H;have HE:=Hd (show bread f1 f3 f2 bs=(0,eL xs 17 k) by rw [HR.out,bg (by simp [hzz])]);have HF:=Hd (AW (w:=w) (numsAt_length xs 17 k) GF.out (λj e=>ao hs3 (ao hs4 (Eu.out j e))) Cd.out);clear hzz;go_wp2_with fail;refine H.out.mono ?_;rintro _ wx ⟨rfl,e0⟩;rw [←e0];clear e0 wx H;go_wp2_with fail;refine bodyPost_ret (v:= .tuple #[.slice oa k oc,.int .i64 0]) (by simp [results,results111,go_sem]) rfl ?_;rw [HE.out];exact HF.out
     ·(have hzf:(xs.drop (17+2*k)).all (· ==0)=false:=by simpa using hzz);rw [vp hzf] at H;have HE:=Hd (show bread f1 f3 f2 bs=(5,[]) by rw [HR.out,bh hzf]);clear hzz hzf;go_wp2_with fail;refine H.out.mono ?_;rintro _ wx ⟨rfl,e0⟩;rw [←e0];clear e0 wx H;go_wp2_with fail;refine bodyPost_ret (v:= .tuple #[.slice none 0 0,.int .i64 5]) (by simp [results,results111,go_sem]) rfl ?_;rw [HE.out];exact gR Cd.out
theorem blockB_any (gen pages i:Int) (a:Option Addr) (cap:Nat) (bs:List UInt8) (w:World) (hp:pages≤9223372036854775807) (hcap:bs.length≤cap) (hll:bs.length≤140737488355328) (hb:Bts w a bs):
  Calls prog 111 #[.int .i64 gen,.int .i64 pages,.int .i64 i,.slice a bs.length cap] w (BlkP (bblock gen pages i bs) w):=by
   by_cases h:mayB gen pages i
   ·(have he:bblock gen pages i bs=bread gen.toNat pages.toNat i.toNat bs:=by unfold bblock;rw [bh h]);rw [he];obtain ⟨h1,h2,h3,h4⟩:=h;obtain ⟨g,rfl⟩:=Int.eq_ofNat_of_zero_le h1.1;obtain ⟨q,rfl⟩:=Int.eq_ofNat_of_zero_le h2.1;obtain ⟨j,rfl⟩:=Int.eq_ofNat_of_zero_le h3;rw [Int.toNat_natCast] at h4;exact vF g q j a cap bs w (by omega) (by omega) (by omega) hcap hll hb
   exact tA gen pages i a cap bs w hp h
end Go.Proofs.YtchbedbmjiabgaaGreatDoor.Wi.Ba
namespace Go.Proofs.YtchbedbmjiabgaaGreatDoor
open Go.RowKit Go.Proofs.Tryz
def cO (r:Int) (b:Bool) (e:Int):Int:=if b=false∧r=0 then e else r
def First (w:World) (f:Nat) (r:Int):Prop:=w.heap[f]?=some (.cells #[.int .i64 r] 28)
theorem First.cell {w:World} {f:Nat} {r:Int} (h:First w f r):w.cell? ⟨f,0,none⟩=some (.int .i64 r):=by unfold First at h;simp [World.cell?,h]
theorem First.frozen {w:World} {f:Nat} {r:Int} (h:First w f r):w.frozen? ⟨f,0,none⟩=false:=by unfold First at h;simp [World.frozen?,h]
theorem First.set {w:World} {f:Nat} {r:Int} (h:First w f r) (e:Int):First (w.setCell ⟨f,0,none⟩ (.int .i64 e)) f e:=by unfold First at*;rw [setCell_eq_setRow w f 0 _ 28 (0,0) _ h,setRow_heap w f _ _ 28 (0,0) h];rfl
theorem ci {w:World} {p:Nat} {o:Obj} (h:w.heap[p]?=some o):p<w.heap.size:=by rcases Nat.lt_or_ge p w.heap.size with h1|h1;exact h1;rw [bJ h1] at h;cases h
def tT (f:Nat) (r:Int) (b:Bool) (e:Int) (w:World) (x:Ending) (w':World):Prop:=
 x= .returned (.tuple #[])∧First w' f (cO r b e)∧Chg (λk=>k=f) w w'∧w'.heap.size=w.heap.size
theorem lR {n j:Nat} (h:j<n) (hw:wrap64 ((j:Int)+1)=(j:Int)+1):n-(intOf (.int .i64 (wrap64 ((j:Int)+1)))).toNat<n-(intOf (.int .i64 (j:Int))).toNat:=by rw [hw];simp only [intOf];omega
theorem nH {n:Nat} (h:0<n):n-(intOf (.int .i64 1)).toNat<n-(intOf (.int .i64 0)).toNat:=by simp only [intOf];omega
theorem dm (f:Nat) (r:Int) (b:Bool) (e:Int) (w:World) (h:First w f r):
  Calls prog 156 #[.bool b,.int .i64 e,.pointer (some ⟨f,0,none⟩)] w (tT f r b e w):=by
   have HC:=Hd (af w ⟨f,0,none⟩ (.int .i64 e));have HS:=Hd (h.set e);have HH:=Hd h;have hc:=h.cell;have hz:=h.frozen;clear h;cases b
   ·by_cases h0:r=0
    ·subst h0;go_enter func156,ntmps156;go_wp2_with fail;go_end0;exact ⟨rfl,by rw [show cO 0 false e=e from by simp [cO]];exact HS.out,HC.out,by simp [World.setCell]⟩
    ·(have h1:(r==0)=false:=by simpa using h0);go_enter func156,ntmps156;go_wp2_with fail;go_end0;exact ⟨rfl,by rw [show cO r false e=r from by simp [cO,h0]];exact HH.out,ae _ _,rfl⟩
   ·go_enter func156,ntmps156;go_wp2_with fail;go_end0;exact ⟨rfl,by rw [show cO r true e=r from by simp [cO]];exact HH.out,ae _ _,rfl⟩
theorem kq (p:PP) (h1:1≤p.kind) (h3:p.kind≤3) (hf:dU p.kind p.level p.items.length p.data.length p.next=true):
  dp p=cO (cQ (gN p.kind p.items) p.items.length) (p.next==0||isPg p.next) 15:=by unfold dp;generalize cQ _ _=r;rw [bg (by omega),bg (by rw [hf];decide)];(have hn:p.kind≠3→p.next=0:=by intro h;simp only [dU,bg h] at hf;split at hf;cases hf;omega);unfold cO;grind
structure Ck (w0:World) (p:PP) (ia:Option Addr) (ic:Nat) (da:Option Addr) (dc:Nat) (r:Int) (w:World):Prop where
 box:w.heap[w0.heap.size]?=some (.cells #[.int .i64 p.kind,.int .i64 p.level,.slice ia p.items.length ic,.slice da p.data.length dc,.int .i64 p.next] 193)
 first:First w (w0.heap.size+1) r
 bel:Below w0.heap.size w0 w
theorem cV {w:World} {p:Nat} {v0 v1 v2 v3 v4:Value} {T:TypeId} (h:w.heap[p]?=some (.cells #[v0,v1,v2,v3,v4] T)):
  w.cell? ⟨p,0,none⟩=some v0∧w.cell? ⟨p,1,none⟩=some v1∧w.cell? ⟨p,2,none⟩=some v2∧w.cell? ⟨p,3,none⟩=some v3∧w.cell? ⟨p,4,none⟩=some v4:=by simp [World.cell?,h]
theorem Ck.start (w0:World) (p:PP) (ia:Option Addr) (ic:Nat) (da:Option Addr) (dc:Nat):Ck w0 p ia ic da dc 0 ((w0.alloc (.cells #[.int .i64 p.kind,.int .i64 p.level,.slice ia p.items.length ic,.slice da p.data.length dc,.int .i64 p.next] 193)).alloc (.cells #[.int .i64 0] 28)):=by refine ⟨?_,?_,dA _ _ _⟩;rw [(bY (w0.alloc _) _).block _ (by simp)];exact az _ _;have h:=az (w0.alloc (.cells #[.int .i64 p.kind,.int .i64 p.level,.slice ia p.items.length ic,.slice da p.data.length dc,.int .i64 p.next] 193)) (.cells #[.int .i64 0] 28);rw [show (w0.alloc (.cells #[.int .i64 p.kind,.int .i64 p.level,.slice ia p.items.length ic,.slice da p.data.length dc,.int .i64 p.next] 193)).heap.size=w0.heap.size+1 by simp] at h;exact h
theorem Ck.must {w0:World} {p:PP} {ia:Option Addr} {ic:Nat} {da:Option Addr} {dc:Nat} {r:Int} {w:World} (h:Ck w0 p ia ic da dc r w) {b:Bool} {e:Int} {x:Ending} {w':World} (hm:tT (w0.heap.size+1) r b e w x w'):Ck w0 p ia ic da dc (cO r b e) w':=by obtain ⟨_,hf,hc,hs⟩:=hm;have hsz:=ci h.first;refine ⟨?_,hf,h.bel.trans (hc.below h.bel.size (λk hk=>by omega))⟩;rw [hc.block _ (by omega) (by omega)];exact h.box
theorem Ck.below {w0:World} {p:PP} {ia:Option Addr} {ic:Nat} {da:Option Addr} {dc:Nat} {r:Int} {w w':World} (h:Ck w0 p ia ic da dc r w) (hb:Below w.heap.size w w'):Ck w0 p ia ic da dc r w':=by have h1:=ci h.first;refine ⟨?_,?_,h.bel.trans (hb.mono h.bel.size)⟩;rw [hb.block _ (by omega)];exact h.box;unfold First;rw [hb.block _ (by omega)];exact h.first
theorem Ck.cast {w0:World} {p:PP} {ia:Option Addr} {ic:Nat} {da:Option Addr} {dc:Nat} {r r':Int} {w:World} (h:Ck w0 p ia ic da dc r w) (e:r=r'):Ck w0 p ia ic da dc r' w:=e▸h
structure CkX (w0:World) (p:PP) (ia:Option Addr) (ic:Nat) (da:Option Addr) (dc:Nat) (g:Nat) (x:PI) (ka:Option Addr) (kc:Nat) (va:Option Addr) (vc:Nat) (r:Int) (w:World):Prop where
 ck:Ck w0 p ia ic da dc r w
 row:w.heap[g]?=some (.cells #[.slice ka x.key.length kc,.slice va x.value.length vc,.int .i64 x.child,.int .i64 x.size] 216)
 gl:w0.heap.size+1<g
theorem jE {w:World} {p:Nat} {v0 v1 v2 v3:Value} {T:TypeId} (h:w.heap[p]?=some (.cells #[v0,v1,v2,v3] T)):
  w.cell? ⟨p,0,none⟩=some v0∧w.cell? ⟨p,1,none⟩=some v1∧w.cell? ⟨p,2,none⟩=some v2∧w.cell? ⟨p,3,none⟩=some v3:=by simp [World.cell?,h]
theorem Ck.item {w0:World} {p:PP} {ia:Option Addr} {ic:Nat} {da:Option Addr} {dc:Nat} {r:Int} {w:World} (h:Ck w0 p ia ic da dc r w) (x:PI) (ka:Option Addr) (kc:Nat) (va:Option Addr) (vc:Nat):
  CkX w0 p ia ic da dc w.heap.size x ka kc va vc r (w.alloc (.cells #[.slice ka x.key.length kc,.slice va x.value.length vc,.int .i64 x.child,.int .i64 x.size] 216)):=
 ⟨h.below (bY _ _),az _ _,ci h.first⟩
theorem CkX.must {w0:World} {p:PP} {ia:Option Addr} {ic:Nat} {da:Option Addr} {dc:Nat} {g:Nat} {x:PI} {ka:Option Addr} {kc:Nat} {va:Option Addr} {vc:Nat} {r:Int} {w:World} (h:CkX w0 p ia ic da dc g x ka kc va vc r w) {b:Bool} {e:Int} {y:Ending} {w':World} (hm:tT (w0.heap.size+1) r b e w y w'):CkX w0 p ia ic da dc g x ka kc va vc (cO r b e) w':=by refine ⟨h.ck.must hm,?_,h.gl⟩;have:=h.gl;rw [hm.2.2.1.block _ (ci h.row) (by omega)];exact h.row
def ze (w0:World) (p:PP) (ia:Option Addr) (ic:Nat) (da:Option Addr) (dc:Nat) (above i:Value) (wr:World):Prop:=
 ∃ j:Nat,j≤p.items.length∧i= .int .i64 j∧Ck w0 p ia ic da dc (cQ (gN p.kind p.items) j) wr∧
  ∃ ka kc ks,above= .slice ka (List.length ks) kc∧Sl w0.heap.size w0 ka kc ks∧(0<j→ks=iT p.items j)
def Checked (p:PP) (w:World) (x:Ending) (w':World):Prop:=x= .returned (.int .i64 (dp p))∧Below w.heap.size w w'
theorem j4 (kind:Int) (xs:List PI) (j:Nat) (x:PI) (ks:List UInt8) (hx:xs[j]?=some x) (hk:0<j→ks=iT xs j):
  cQ (gN kind xs) (j+1)=if cQ (gN kind xs) j=0 then fq kind j ks x else cQ (gN kind xs) j:=by
   have e:gN kind xs j=fq kind j ks x:=by
    unfold gN;rw [hx];by_cases h:0<j;rw [hk h]
    ·(obtain rfl:j=0:=by omega);simp [fq]
   simp only [cQ,e]
theorem sK (p:PP) (ia:Option Addr) (ic:Nat) (da:Option Addr) (dc:Nat) (w:World) (hp:PgAt w.heap.size w p ia ic da dc) (hk:p.kind<1∨3<p.kind):
  Calls prog 116 #[pgv p ia ic da dc] w (Checked p w):=by have hmf:∀ (fn:Fn) (first cap:Array Value) (w:World),(Instr.makeFunc fn first cap).run prog w= .ok (.func fn first cap) w:=λ_ _ _ _=>rfl;have HP:=Hd hp;have Ew:=Hd (Ck.start w p ia ic da dc);have HF:=Hd λw=>iH p ia ic da dc w;obtain ⟨kind,level,items,data,next⟩:=p;simp only [pgv] at*;obtain ⟨n,hn⟩:∃ n,items.length=n:=⟨_,rfl⟩;obtain ⟨m,hm⟩:∃ m,data.length=m:=⟨_,rfl⟩;rw [hn,hm] at Ew HF⊢;have HN:=Hd hn;have HM:=Hd hm;clear hp hn hm;have HR:=Hd (show dp ⟨kind,level,items,data,next⟩=22 by unfold dp;rw [bh hk]);rcases hk with hk|hk;all_goals go_enter func116,ntmps116;go_wp2_with fail;have hS:=Ew.out;refine (dm _ _ _ _ _ hS.first).mono ?_;rintro _ u hmu;obtain rfl:=hmu.1;replace hS:Ck w ⟨kind,level,items,data,next⟩ ia ic da dc 22 u:=(hS.must hmu).cast (by grind [cO]);clear hmu;obtain ⟨c0,c1,c2,c3,c4⟩:=cV hS.box;go_wp2_with fail;rw [HN.out,HM.out];refine (HF.out _).mono ?_;rintro _ u2 ⟨⟨bf,rfl, -⟩,hB2⟩;replace hS:=hS.below hB2;clear c0 c1 c2 c3 c4 hB2;go_wp2_with fail;refine (dm _ _ _ _ _ hS.first).mono ?_;rintro _ u3 hmu;obtain rfl:=hmu.1;replace hS:=(hS.must hmu).cast (show cO 22 bf 5=22 by simp [cO]);clear hmu;have cf:=hS.first.cell;go_wp2_with fail;go_ret;exact ⟨kK HR.out.symm,hS.bel⟩
theorem sL (p:PP) (ia:Option Addr) (ic:Nat) (da:Option Addr) (dc:Nat) (w:World) (hp:PgAt w.heap.size w p ia ic da dc) (hk:¬ (p.kind<1∨3<p.kind)) (hf:dU p.kind p.level p.items.length p.data.length p.next=false):
  Calls prog 116 #[pgv p ia ic da dc] w (Checked p w):=by have hmf:∀ (fn:Fn) (first cap:Array Value) (w:World),(Instr.makeFunc fn first cap).run prog w= .ok (.func fn first cap) w:=λ_ _ _ _=>rfl;have HP:=Hd hp;have Ew:=Hd (Ck.start w p ia ic da dc);have HF:=Hd λw=>iH p ia ic da dc w;obtain ⟨kind,level,items,data,next⟩:=p;simp only [pgv] at*;obtain ⟨n,hn⟩:∃ n,items.length=n:=⟨_,rfl⟩;obtain ⟨m,hm⟩:∃ m,data.length=m:=⟨_,rfl⟩;rw [hn,hm] at Ew HF⊢;have HN:=Hd hn;have HM:=Hd hm;rw [hn,hm] at hf;clear hp hn hm;(have hk1:1≤kind:=by omega);(have hk3:kind≤3:=by omega);have HK:=Hd hk;clear hk;have hFo:=HF.out;clear HF;have HR:=Hd (show dp ⟨kind,level,items,data,next⟩=5 by unfold dp;rw [bg HK.out];show (if dU kind level items.length data.length next=false then (5:Int) else _)=5;rw [HN.out,HM.out,bh hf]);have HF:=Hd hFo;have Hf:=Hd hf;clear hf hFo;go_enter func116,ntmps116;go_wp2_with fail;have hS:=Ew.out;refine (dm _ _ _ _ _ hS.first).mono ?_;rintro _ u hmu;obtain rfl:=hmu.1;replace hS:Ck w ⟨kind,level,items,data,next⟩ ia ic da dc 0 u:=(hS.must hmu).cast (by grind [cO]);clear hmu;obtain ⟨c0,c1,c2,c3,c4⟩:=cV hS.box;go_wp2_with fail;rw [HN.out,HM.out];refine (HF.out _).mono ?_;rintro _ u2 ⟨⟨bf,rfl,hbf⟩,hB2⟩;(obtain rfl:bf=false:=by rw [hbf hk1 hk3];exact Hf.out);replace hS:=hS.below hB2;clear c0 c1 c2 c3 c4 hB2 hbf;go_wp2_with fail;refine (dm _ _ _ _ _ hS.first).mono ?_;rintro _ u3 hmu;obtain rfl:=hmu.1;replace hS:=(hS.must hmu).cast (show cO 0 false 5=5 by simp [cO]);clear hmu;have cf:=hS.first.cell;go_wp2_with fail;go_ret;exact ⟨kK HR.out.symm,hS.bel⟩
section
variable {j:Nat} {key value ks:List UInt8} {child size r c:Int} {b1 b2 b3 b4 b5:Bool}
theorem qV {k:Int} (hk:k=1∨¬ j=0) (h:(1:Int)≤(key.length:Int)):decide ((key.length:Int)≤24)=jb k j ⟨key,value,child,size⟩:=by grind [jb]
theorem jU {k:Int} (hk:k=1∨¬ j=0) (h:¬ (1:Int)≤(key.length:Int)):false=jb k j ⟨key,value,child,size⟩:=by grind [jb]
theorem key_c:((key.length:Int)==0)=jb 2 0 ⟨key,value,child,size⟩:=by grind [jb]
theorem yV:true= !decide (0<0∧Lib.compareBytes key ks≤0):=by simp
theorem yU (h:¬ j=0) (e:Lib.compareBytes key ks=c):decide (0<c)= !decide (0<j∧Lib.compareBytes key ks≤0):=by rw [e];grind
theorem vP (h:0≤size) (h2:size≤32):(decide (size≤3840)&&((value.length:Int)==size))=dF 1 ⟨key,value,child,size⟩:=by grind [dF]
theorem mr (h:0≤size) (h2:¬ size≤32):(decide (size≤3840)&&((value.length:Int)==0))=dF 1 ⟨key,value,child,size⟩:=by grind [dF]
theorem mq (h:¬ 0≤size):(false&&((value.length:Int)==size))=dF 1 ⟨key,value,child,size⟩:=by grind [dF]
theorem val_d (h:(value.length:Int)=0):(size==0)=dF 2 ⟨key,value,child,size⟩:=by grind [dF]
theorem val_e (h:¬ (value.length:Int)=0):false=dF 2 ⟨key,value,child,size⟩:=by grind [dF]
theorem vR (h2:size≤32):(child==0)=eG 1 ⟨key,value,child,size⟩:=by grind [eG]
theorem mu (h2:¬ size≤32):isPg child=eG 1 ⟨key,value,child,size⟩:=by grind [eG]
theorem chi_c:isPg child=eG 2 ⟨key,value,child,size⟩:=by grind [eG]
theorem kT (h1:b1=jb 1 j ⟨key,value,child,size⟩) (h2:b2= !decide (0<j∧Lib.compareBytes key ks≤0)) (h3:(b3&&b4)=dF 1 ⟨key,value,child,size⟩) (h5:b5=eG 1 ⟨key,value,child,size⟩):
  cO (cO (cO (cO (cO r b1 7) b2 11) b3 8) b4 8) b5 15=if r=0 then fq 1 j ks ⟨key,value,child,size⟩ else r:=by unfold fq;simp only [←h1,←h3,←h5];(have h2':(0<j∧Lib.compareBytes key ks≤0)↔b2=false:=by rw [h2];simp);simp only [h2'];clear h1 h2 h3 h5 h2';by_cases hr:r=0;subst hr;cases b1<;>cases b2<;>cases b3<;>cases b4<;>cases b5<;>simp [cO];simp [cO,hr]
theorem pf (h1:b1=jb 2 j ⟨key,value,child,size⟩) (h2:b2= !decide (0<j∧Lib.compareBytes key ks≤0)) (h3:b3=dF 2 ⟨key,value,child,size⟩) (h5:b5=eG 2 ⟨key,value,child,size⟩):
  cO (cO (cO (cO r b1 7) b2 11) b3 8) b5 15=if r=0 then fq 2 j ks ⟨key,value,child,size⟩ else r:=by unfold fq;simp only [←h1,←h3,←h5];(have h2':(0<j∧Lib.compareBytes key ks≤0)↔b2=false:=by rw [h2];simp);simp only [h2'];clear h1 h2 h3 h5 h2';by_cases hr:r=0;subst hr;cases b1<;>cases b2<;>cases b3<;>cases b5<;>simp [cO];simp [cO,hr]
theorem un (h1:b1=jb 2 0 ⟨key,value,child,size⟩) (h3:b3=dF 2 ⟨key,value,child,size⟩) (h5:b5=eG 2 ⟨key,value,child,size⟩):
  cO (cO (cO r b1 7) b3 8) b5 15=if r=0 then fq 2 0 ks ⟨key,value,child,size⟩ else r:=by have:=pf (r:=r) h1 (yV (key:=key) (ks:=ks)) h3 h5;rw [show cO (cO r b1 7) true 11=cO r b1 7 by unfold cO;rw [bg (λg=>by cases g.1)]] at this;exact this
end
def QD (w w':World):Prop:=∃ m,w'=w.drewN m
theorem QD.refl (w:World):QD w w:=⟨0,rfl⟩
theorem QD.drewN {w w':World} (h:QD w w') (n:Nat):QD w (w'.drewN n):=by obtain ⟨m,rfl⟩:=h;exact ⟨_,World.drewN_drewN _ _ _⟩
theorem QD.below {w w':World} (h:QD w w'):Below w.heap.size w w':=by obtain ⟨m,rfl⟩:=h;exact cC (aA _ _) _
structure DB (w0:World) (p:PP) (ia:Option Addr) (ic:Nat) (da:Option Addr) (dc:Nat) (w:World):Prop where
 box:w.heap[w0.heap.size]?=some (.cells #[.int .i64 p.kind,.int .i64 p.level,.slice ia p.items.length ic,.slice da p.data.length dc,.int .i64 p.next] 193)
 bel:Below w0.heap.size w0 w
section
variable {w0:World} {p:PP} {ia:Option Addr} {ic:Nat} {da:Option Addr} {dc:Nat} {w w':World}
theorem DB.below (h:DB w0 p ia ic da dc w) (hb:Below w.heap.size w w'):DB w0 p ia ic da dc w':=
 ⟨by rw [hb.block _ (ci h.box)];exact h.box,h.bel.trans (hb.mono h.bel.size)⟩
theorem DB.drN (h:DB w0 p ia ic da dc w) (n:Nat):DB w0 p ia ic da dc (w.drewN n):=h.below (cC (aA _ _) n)
theorem DB.start (w0:World) (p:PP) (ia:Option Addr) (ic:Nat) (da:Option Addr) (dc:Nat):DB w0 p ia ic da dc (w0.alloc (.cells #[.int .i64 p.kind,.int .i64 p.level,.slice ia p.items.length ic,.slice da p.data.length dc,.int .i64 p.next] 193)):=
 ⟨az _ _,bY _ _⟩
end
end Go.Proofs.YtchbedbmjiabgaaGreatDoor
