/- TopFormat, part 4 of the proof: WrOps SupP TPlace Rd RdCatch. No condition. -/
import Derived.Test.YtchbedbmjiabgaaGreatDoorZ03
set_option linter.all false
set_option maxHeartbeats 16000000
set_option maxRecDepth 100000
namespace Go.Proofs.YtchbedbmjiabgaaGreatDoor.Wi
open Go.RowKit Go.Proofs.Tryz
def WS.short (s:WS) (xs:List UInt8):WS:=if 255<xs.length then s.fail 3 else s.add (UInt8.ofNat xs.length::xs)
def WS.fill (s:WS) (n:Int):WS:=if n<s.bs.length then s.fail 3 else if s.most<n then s.fail 4 else s.add (List.replicate (n.toNat-s.bs.length) 0)
def WS.new (most:Int):WS:=⟨(min (max most 0) 16777216).toNat,[],0⟩
theorem IsW.below {w w':World} {p:Nat} {oa:Option Addr} {cap:Nat} {s:WS} (h:IsW w p oa cap s) (hb:Below w.heap.size w w'):IsW w' p oa cap s:=h.chg (F:=λ_=>False) (ac hb) (λf=>f) (λ_ _ f=>f)
theorem uM (w:World) (m:Nat) (hm:m≤16777216):∃ w',(Instr.makeSlice 24 (.int .i64 (m:Int)) (.int .i64 (m:Int))).run prog w= .ok (.slice (some ⟨w.heap.size,0,none⟩) m m) w'∧OB w' (some ⟨w.heap.size,0,none⟩) m (List.replicate m 0)∧Below w.heap.size w w'∧w.heap.size<w'.heap.size:=by
 obtain ⟨i0,hi,hz0,hz1,hz2⟩:=info_parts eB.hi;obtain ⟨w',hr,ho,hg⟩:=run_make_full (P:=prog) (w:=w) 0 24 5 i0 (.int .u8 0) 1 eB.hu hi hz0 hz1 .i64 .i64 m (by rw [hz2];show 1*m≤_;omega) (by unfold maxLen;omega) (aV _)
 have hO:OB w' (some ⟨w.heap.size,0,none⟩) m (List.replicate m 0):=by
  have e:(madeCells (Value.int .u8 0).cells (m*1)).toList=bZ (List.replicate m 0):=by apply List.ext_getElem?;intro i;(have h01:∀ i:Nat,#[Value.int .u8 0][i%1]! =Value.int .u8 0:=λi=>by rw [Nat.mod_one];rfl);simp only [madeCells,bZ,Value.cells,Nat.mul_one,h01,bw,aG,aR,List.map_replicate,Array.toList_map,aY,List.getElem?_replicate];by_cases h:i<m;simp [h];simp [h]
  rw [e] at ho;show w'.ownsRow 0 _ _ _ _ _;rw [aH];exact ho
 exact ⟨w',hr,hO,(aA _ _).grown hg (am _) (λk hk=>by cases hk),hO.lt _ rfl⟩
theorem rV (p:Nat) (oa:Option Addr) (cap:Nat) (s:WS) (n:Int) (hn: -9223372036854775808≤n∧n≤9223372036854775807) (w:World) (h:IsW w p oa cap s):
  Calls prog 74 #[.pointer (some ⟨p,0,none⟩),.int .i64 n] w λr w'=>r= .returned (.tuple #[])∧Wrote w p oa (s.fill n) w':=by
   have hs:=h;obtain ⟨⟨T,h3⟩,h4,h5,h6,h7,h8⟩:=h;obtain ⟨c0,c1,c2,f⟩:=ki h3;have hp:=hs.lt;have hblk:=h4.lt;clear h3 h4 h5 f;(have hnb:s.bs.length≤16777216:=by omega);(have hbsi:(0:Int)≤(s.bs.length:Int):=by omega);by_cases t1:n<s.bs.length
   ·have HF:=Hd (show s.fill n=s.fail 3 by simp [WS.fill,t1]);have H:=Hd (rY p oa cap s 3 (by decide) w hs);clear hs hn;go_enter func74,ntmps74;go_wp2_with fail;refine H.out.mono ?_;rintro _ w3 ⟨rfl,h3⟩;go_wp2_with fail;go_returns;exact ⟨rfl,by rw [HF.out];exact h3⟩
   by_cases t2:(s.most:Int)<n
   ·have HF:=Hd (show s.fill n=s.fail 4 by simp [WS.fill,t1,t2]);have H:=Hd (rY p oa cap s 4 (by decide) w hs);clear hs hn;go_enter func74,ntmps74;go_wp2_with fail;refine H.out.mono ?_;rintro _ w3 ⟨rfl,h3⟩;go_wp2_with fail;go_returns;exact ⟨rfl,by rw [HF.out];exact h3⟩
   have HF:=Hd (show s.fill n=s.add (List.replicate (n.toNat-s.bs.length) 0) by simp [WS.fill,t1,t2]);(have hm:n-(s.bs.length:Int)=((n.toNat-s.bs.length:Nat):Int):=by omega);(have hml:n.toNat-s.bs.length≤16777216:=by omega);generalize n.toNat-s.bs.length=m at hm hml HF;obtain ⟨w1,hmk,hO,hB,hz⟩:=uM w m hml;have hB2:=hB.alloc hB.size (.cells #[.slice (some ⟨w.heap.size,0,none⟩) m m] 24);have hg:=az w1 (.cells #[.slice (some ⟨w.heap.size,0,none⟩) m m] 24);have hO2:=hO.below ((aA _ _).alloc (am _) (.cells #[.slice (some ⟨w.heap.size,0,none⟩) m m] 24))
   have H:=Hd (iS p w1.heap.size 1 oa cap s [⟨some ⟨w.heap.size,0,none⟩,m,List.replicate m 0⟩] (by simp [cK];omega) (by show 1≤_;omega) _ (hs.below hB2)
    (λj x hj=>by
      cases j with
      |zero=>cases hj;exact ⟨by rw [bd _ _ 0 _ _ _ hg];simp,hO2.bts,λe=>by cases e⟩
      |succ j=>simp at hj)
    (eE hg) ⟨⟨by omega,λe=>by have:=hblk _ e;omega⟩,λx hx=> .inr λk hk=>by
     simp at hx;subst hx
     simp [blk] at hk;subst hk
     exact ⟨by omega,λe=>by have:=hblk _ e;omega⟩⟩)
   rw [show cK [⟨some ⟨w.heap.size,0,none⟩,m,List.replicate m 0⟩]=List.replicate m 0 by simp [cK]] at H;clear hs hO hO2 hg hblk hn;go_enter func74,ntmps74;go_wp2_with fail;refine H.out.mono ?_;rintro _ w3 ⟨rfl,h3⟩;go_wp2_with fail;go_returns;exact ⟨rfl,by rw [HF.out];exact Wrote.below hB2 h3⟩
def Told (w:World) (bs:List UInt8) (r:Ending) (w':World):Prop:=
 ∃ oa cap,r= .returned (.tuple #[.slice oa bs.length cap,.int .i64 0])∧OB w' oa cap bs∧(blk oa=none∨blk oa=some w.heap.size)∧Below w.heap.size w w'
theorem wz (p:Nat) (oa:Option Addr) (cap:Nat) (s:WS) (he:s.err=0) (w:World) (h:IsW w p oa cap s):
  Calls prog 75 #[.pointer (some ⟨p,0,none⟩)] w (Told w s.bs):=by obtain ⟨⟨T,h3⟩,h4,h5,h6,h7,h8⟩:=h;obtain ⟨c0,c1,c2,f⟩:=ki h3;(have e1:((s.err:Int) != 0)=false:=by rw [bne_eq_false_iff_eq];omega);have hb:=h4.bts;have hn:oa=none→cap=0:=λe=>(h4.none_cap e).1;(have hl:s.bs.length≤16777216:=by omega);generalize hcl:s.bs.length=n at c1 hl;have Hcl:=Hd hcl;clear h3 f he h4 h5 h6 h7 h8 hcl;go_enter func75,ntmps75;go_wp2_with (at_builtin;go_must (refine cJ rfl (.const (.slice none 0 0)) (.tmp 16) rfl (n:=0) (bs:=[]) rfl rfl (ah _) Hcl.out.symm rfl hb hn (by omega) ?_);intro oa2 cap2 w2 hO2 hC2 hb2 _);go_ret2;have hB:Below w.heap.size w w2:=hC2.below (am _) (λk e=>by cases e);exact ⟨oa2,cap2,by rw [Hcl.out];rfl,by simpa using hO2,hb2,hB⟩
theorem j1 (most:Int) (w:World):
  Calls prog 70 #[.int .i64 most] w λr w'=>r= .returned (.pointer (some ⟨w.heap.size,0,none⟩))∧IsW w' w.heap.size none 0 (WS.new most)∧Below w.heap.size w w':=by go_enter func70,ntmps70;go_wp2_with fail;all_goals go_ret;refine ⟨rfl,⟨⟨221,(az w _).trans ?_⟩,ah _,by simp [blk],aV _,?_,aV _⟩,(aA _ _).alloc (am _) _⟩;congr 2;simp only [WS.new];congr 3;omega;simp only [WS.new];omega
end Go.Proofs.YtchbedbmjiabgaaGreatDoor.Wi
namespace Go.Proofs.YtchbedbmjiabgaaGreatDoor.Wi.Su
open Go.RowKit Go.Proofs.Tryz
def bankN (p:Nat):Nat:=(p+239)/240
def fZ (B:Nat):Nat→Nat
 |0=>0
 |p+1=>if B<2+2*bankN (p+1)+(p+1) then fZ B p else p+1
def pagesN (B:Nat):Nat:=fZ B B
def MayC (c:CF):Prop:=(8≤c.blocks∧c.blocks≤65536)∧(1≤c.clones∧c.clones≤16)∧(2≤c.refs∧c.refs≤65535)
instance (c:CF):Decidable (MayC c):=inferInstanceAs (Decidable (_∧_))
def CF.pages (c:CF):Nat:=pagesN c.blocks.toNat
def planV (p:Nat):Value:= .agg #[.int .i64 (p:Int),.int .i64 (bankN p:Int),.int .i64 ((2+2*bankN p:Nat):Int)]
def qS:Value:= .agg #[.int .i64 0,.int .i64 0,.int .i64 0]
def planned (c:CF):Ending:=if MayC c then .returned (.tuple #[planV c.pages,.int .i64 0]) else .returned (.tuple #[qS,.int .i64 1])
theorem AP (B p:Nat):fZ B p≤p:=by
 induction p with
 |zero=>exact am _
 |succ p ih=>unfold fZ;split<;>omega
theorem downN_fits (B p:Nat) (hB:2≤B):2+2*bankN (fZ B p)+fZ B p≤B:=by
 induction p with
 |zero=>show 2+2*bankN 0+0≤B;unfold bankN;omega
 |succ p ih=>unfold fZ;split<;>omega
theorem downN_most (B p q:Nat) (hB:2≤B) (hq:q≤p) (hf:2+2*bankN q+q≤B):q≤fZ B p:=by
 induction p with
 |zero=>omega
 |succ p ih=>
  unfold fZ;split
  ·rename_i h;by_cases e:q=p+1;subst e;omega;exact ih (by omega)
  omega
theorem vu {B p:Nat} (h:B<2+2*bankN (p+1)+(p+1)):fZ B (p+1)=fZ B p:=by rw [fZ,bh h]
theorem yE {B p:Nat} (h:2+2*bankN p+p≤B):fZ B p=p:=by
 cases p with
 |zero=>rfl
 |succ p=>rw [fZ,bg (by omega)]
theorem pagesN_le (B:Nat):pagesN B≤B:=AP B B
theorem bY (w:World) (o1:Obj):Below w.heap.size w (w.alloc o1):=(aA _ _).alloc (am _) _
theorem dA (w:World) (o1 o2:Obj):Below w.heap.size w ((w.alloc o1).alloc o2):=((aA _ _).alloc (am _) _).alloc ((aA _ _).alloc (am _) _).size _
theorem mx (w:World) (o1 o2 o3:Obj):Below w.heap.size w (((w.alloc o1).alloc o2).alloc o3):=(dA w o1 o2).alloc (dA w o1 o2).size _
theorem ret_bool {a b:Bool} (h:a=b):Ending.returned (.bool a)= .returned (.bool b):=by rw [h]
theorem lH (x lo hi:Int) (w:World) (h1:i64ok x):Calls prog 63 #[.int .i64 x,.int .i64 lo,.int .i64 hi] w λe w'=>e= .returned (.bool (decide (lo≤x∧x≤hi)))∧w'=w:=by by_cases h:lo≤x<;>by_cases g:x≤hi;all_goals go_enter func63,ntmps63;go_wp2_with fail;go_ret;exact ⟨by simp [h,g],rfl⟩
theorem kM (c:CF) (h1:i64ok c.blocks) (h2:i64ok c.clones) (h3:i64ok c.refs) (w:World):Calls prog 45 #[.agg #[.int .i64 c.blocks,.int .i64 c.clones,.int .i64 c.refs]] w λe w'=>e= .returned (.bool (decide (MayC c)))∧w'=w.alloc (.cells #[.int .i64 c.blocks,.int .i64 c.clones,.int .i64 c.refs] 23):=by go_enter func45,ntmps45;go_wp2_with (go_at_call 63;refine (lH _ _ _ _ (by assumption)).mono ?_;rintro _ _ ⟨rfl,rfl⟩);all_goals go_ret;refine ⟨ret_bool ?_,rfl⟩;grind [MayC]
theorem AZ (p:Nat) (hp:p≤65536) (w:World):Calls prog 46 #[.int .i64 (p:Int)] w λe w'=>e= .returned (.int .i64 (bankN p:Int))∧w'=w:=by go_enter func46,ntmps46;go_wp2_with fail;go_ret;exact ⟨by apply qd;unfold bankN;go_num,rfl⟩
def RelP (B:Nat) (w1:World) (i:Value) (wr:World):Prop:=∃ p n:Nat,p≤B∧i= .int .i64 p∧fZ B p=pagesN B∧wr=w1.drewN n
theorem plan_any (c:CF) (h1:i64ok c.blocks) (h2:i64ok c.clones) (h3:i64ok c.refs) (w:World):Calls prog 31 #[.agg #[.int .i64 c.blocks,.int .i64 c.clones,.int .i64 c.refs]] w λe w'=>e=planned c∧Below w.heap.size w w':=by
 by_cases hm:MayC c
 ·have hd:decide (MayC c)=true:=by simpa using hm
  have hpl:planned c= .returned (.tuple #[planV c.pages,.int .i64 0]):=by rw [planned,bh hm]
  obtain ⟨B,hB⟩:∃ B:Nat,c.blocks=(B:Int):=⟨c.blocks.toNat,by have:=hm.1;omega⟩;have hBl:8≤B∧B≤65536:=by have:=hm.1;omega
  have hpg:c.pages=pagesN B:=by rw [CF.pages,hB];rfl
  rw [hpl,hpg];have HM:=Hd (kM c h1 h2 h3);rw [hd] at HM;obtain ⟨bl,cl,re⟩:=c;simp only at hB HM;subst hB;clear hm hd hpl hpg h1 h2 h3;have HB:=Hd (bY w);go_enter func31,ntmps31;go_wp2_with fail;refine (HM.out _).mono ?_;rintro _ _ ⟨rfl,rfl⟩;go_wp2_with fail;go_loopw [4] (λi wr=>RelP B (((w.alloc (.cells #[.int .i64 B,.int .i64 cl,.int .i64 re] 23)).alloc (.cells #[.int .i64 0,.int .i64 0,.int .i64 0] 86)).alloc (.cells #[.int .i64 B,.int .i64 cl,.int .i64 re] 23)) i wr) (λi _=>(intOf i).toNat);case atStart=>exact ⟨B,0,am _,rfl,rfl,(World.drewN_zero _).symm⟩
  case round=>
   obtain ⟨p,n,hp,rfl,hd,hw⟩:=hrel;(have z0:wr.cell? ⟨w.heap.size,0,none⟩=some (.int .i64 B):=by rw [hw];show (((w.alloc _).alloc _).alloc _).cell? ⟨w.heap.size,0,none⟩=_;go_simp);have Hw:=Hd hw;clear hw;obtain ⟨b,hb⟩:∃ b,bankN p=b:=⟨_,rfl⟩;(have hbl:b≤274:=by rw [←hb];unfold bankN;omega);have HK:=Hd (AZ p (by omega));rw [hb] at HK;by_cases hf:B<2+2*b+p
   ·have hp0:0<p:=by
     rcases Nat.eq_zero_or_pos p with rfl|h
     ·(have:bankN 0=0:=by unfold bankN;omega);omega
     exact h
    obtain ⟨q,rfl⟩:∃ q,p=q+1:=⟨p-1,by omega⟩;(have hq:fZ B q=pagesN B:=by rw [←hd,vu (by rw [hb];exact hf)]);have Hq:=Hd hq;clear hd hq hb;go_wp2_with fail;go_quiet (exact Calls.quiet_of_same (HK.out _));go_wp2_with fail;go_roundw;(case rel=>exact ⟨q,n+nq,by omega,by go_num,Hq.out,by rw [Hw.out,World.drewN_drewN]⟩);case measure=>simp [intOf]
   ·(have hq:pagesN B=p:=by rw [←hd,yE (by omega)]);have Hq:=Hd hq;have Hb:=Hd hb;clear hd hq hb;go_wp2_with fail;go_quiet (exact Calls.quiet_of_same (HK.out _));have hw:=Hw.out;subst hw;go_wp2_with (go_at_call 46;refine (HK.out _).mono ?_;rintro _ _ ⟨rfl,rfl⟩);refine bodyPost_ret (v:= .tuple #[.agg #[.int .i64 p,.int .i64 b,.int .i64 (2+2*(b:Int))],.int .i64 0]) (by simp [results,results31,go_sem]) rfl ?_;exact ⟨by rw [Hq.out,planV,Hb.out];rfl,(((cC (mx w _ _ _) _).setCell (Nat.le_succ _) _).setCell (Nat.le_succ _) _).setCell (Nat.le_succ _) _⟩
 ·have hd:decide (MayC c)=false:=by simpa using hm
  have hpl:planned c= .returned (.tuple #[qS,.int .i64 1]):=by rw [planned,bg hm]
  rw [hpl];have HM:=Hd (kM c h1 h2 h3);rw [hd] at HM;clear hm hd hpl h1 h2 h3;have HB:=Hd (bY w);go_enter func31,ntmps31;go_wp2_with fail;refine (HM.out _).mono ?_;rintro _ _ ⟨rfl,rfl⟩;go_wp2_with fail;refine bodyPost_ret (v:= .tuple #[qS,.int .i64 1]) (by simp [results,results31,go_sem,qS]) rfl ?_;exact ⟨rfl,mx w _ _ _⟩
end Go.Proofs.YtchbedbmjiabgaaGreatDoor.Wi.Su
namespace Go.Proofs.YtchbedbmjiabgaaGreatDoor
open Go.RowKit Go.Proofs.Tryz
theorem inS_any (x lo hi:Int) (w:World):Calls prog 63 #[.int .i64 x,.int .i64 lo,.int .i64 hi] w λe w'=>e= .returned (.bool (decide (lo≤x∧x≤hi)))∧w'=w:=by by_cases h:lo≤x<;>by_cases g:x≤hi;all_goals go_enter func63,ntmps63;go_wp2_with fail;go_ret;exact ⟨by simp [h,g],rfl⟩
theorem yP (n:Int):bits .and .i64 n 1=n%2:=by
 have h1:(BitVec.ofInt 64 1).toNat=2^1-1:=by decide
 have key:(BitVec.ofInt 64 n&&& BitVec.ofInt 64 1).toNat=(n%((2^64:Nat):Int)).toNat%2^1:=by rw [BitVec.toNat_and,BitVec.toNat_ofInt,h1,Nat.and_two_pow_sub_one_eq_mod]
 show IntKind.i64.wrap ((BitVec.ofInt 64 n&&& BitVec.ofInt 64 1).toNat:Nat)=_;rw [key,IntKind.wrap_i64];omega
theorem fE (g:Int) (w:World):Calls prog 50 #[.int .i64 g] w λe w'=>e= .returned (.int .i64 (g%2))∧w'=w:=by go_enter func50,ntmps50;go_wp2_with fail;go_ret;refine ⟨qd ?_,rfl⟩;exact yP g
theorem pS (p b f s:Int) (hs:s=0∨s=1) (hb:0≤b∧b≤100000) (w:World):Calls prog 49 #[.agg #[.int .i64 p,.int .i64 b,.int .i64 f],.int .i64 s] w λe w'=>e= .returned (.int .i64 (2+s*b))∧Below w.heap.size w w':=by have HB:=Hd (bY w);have hw:IntKind.i64.wrap (2+b)=2+b:=bD _ (by omega);rcases hs with rfl|rfl;all_goals go_enter func49,ntmps49;go_wp2_with fail;go_ret;refine ⟨qd ?_,HB.out _⟩;clear HB;omega
theorem vG (p b f n:Int) (hf:0≤f∧f≤100000) (hp:p≤100000) (w:World):Calls prog 112 #[.agg #[.int .i64 p,.int .i64 b,.int .i64 f],.int .i64 n] w λe w'=>e= .returned (.tuple #[.int .i64 (if 1≤n∧n≤p then f+n-1 else 0),.bool (decide (1≤n∧n≤p))])∧Below w.heap.size w w':=by
 have HB:=Hd (bY w);by_cases hn:1≤n∧n≤p
 focus
  have hd:decide (1≤n∧n≤p)=true:=by simpa using hn
  have hw:IntKind.i64.wrap (f+n)=f+n:=bD _ (by omega);have hw2:IntKind.i64.wrap (f+n-1)=f+n-1:=bD _ (by omega);have HN:=Hd hn;rw [bh hn,hd]
 rotate_left
 focus
  have hd:decide (1≤n∧n≤p)=false:=by simpa using hn
  rw [bg hn,hd]
 all_goals go_enter func112,ntmps112;go_wp2_with (go_at_call 63;refine (inS_any _ _ _ _).mono ?_;rintro _ _ ⟨rfl,rfl⟩);go_ret2;exact ⟨rfl,HB.out _⟩
def DkAt (w:World) (g n:Nat) (img:Int→List UInt8):Prop:=
 ∃ ml ms N1 N2 ws al wr sy sh la,w.heap[g]?=some (rowD n ml ws ms true al wr sy)∧MpI w ms N1 (λk=>(sh k).map bv)∧MpI w ml N2 (λk=>(la k).map bv)∧(∀ k b,sh k=some b→b.length=512)∧(∀ k b,la k=some b→b.length=512)∧∀ i:Int,0≤i→i<(n:Int)→lF sh la i=img i
theorem DkAt.below {w w':World} {g n:Nat} {img:Int→List UInt8} (h:DkAt w g n img) (hb:Below w.heap.size w w'):DkAt w' g n img:=by obtain ⟨ml,ms,N1,N2,ws,al,wr,sy,sh,la,h1,h2,h3,h4⟩:=h;exact ⟨ml,ms,N1,N2,ws,al,wr,sy,sh,la,(hb.block _ (rltT h1)).trans h1,h2.chg (F:=λ_=>False) (ac hb) (λf=>f),h3.chg (F:=λ_=>False) (ac hb) (λf=>f),h4⟩
theorem DkAt.len {w:World} {g n:Nat} {img:Int→List UInt8} (h:DkAt w g n img) {i:Int} (h0:0≤i) (h1:i<(n:Int)):(img i).length=512:=by
 obtain ⟨ml,ms,N1,N2,ws,al,wr,sy,sh,la, -, -, -,h4,h5,h6⟩:=h;rw [←h6 i h0 h1];unfold lF;split
 ·rename_i b hb;exact h4 _ _ hb
 ·cases hl:la i with
  |none=>simp [zs]
  |some b=>exact h5 _ _ hl
theorem wG (i:Int) {w:World} {g n:Nat} {img:Int→List UInt8} (h:DkAt w g n img) (h0:0≤i) (h1:i<(n:Int)) (hn:n≤100000):Calls prog 55 #[.pointer (some ⟨g,0,none⟩),.int .i64 i] w (RdD (img i) w):=by obtain ⟨ml,ms,N1,N2,ws,al,wr,sy,sh,la,a1,a2,a3,a4,a5,a6⟩:=h;rw [←a6 i h0 h1];exact nB i a1 a2 a3 a4 a5 h0 h1 (WalkArith.wf_i64 (by omega))
theorem dk_on {w:World} {g n:Nat} {img:Int→List UInt8} (h:DkAt w g n img):Calls prog 9 #[.pointer (some ⟨g,0,none⟩)] w λe w'=>e= .returned (.bool true)∧w=w':=by obtain ⟨ml,ms,N1,N2,ws,al,wr,sy,sh,la,a1, -⟩:=h;exact rT a1
theorem iK {w:World} {g n:Nat} {img:Int→List UInt8} (h:DkAt w g n img):Calls prog 32 #[.pointer (some ⟨g,0,none⟩)] w λe w'=>e= .returned (.int .i64 n)∧w=w':=by obtain ⟨ml,ms,N1,N2,ws,al,wr,sy,sh,la,a1, -⟩:=h;exact fG a1
end Go.Proofs.YtchbedbmjiabgaaGreatDoor
namespace Go.Proofs.YtchbedbmjiabgaaGreatDoor.Wi
open Go.RowKit Go.Proofs.Tryz
structure RS where
 (rest:List UInt8) (err:Nat)
def IsR (w:World) (p:Nat) (a:Option Addr) (cap:Nat) (s:RS):Prop:=
 (∃ T,w.heap[p]?=some (.cells #[.slice a s.rest.length cap,.int .i64 (s.err:Int)] T))∧Bts w a s.rest∧(a=none→cap=0)∧blk a≠some p∧s.rest.length≤cap∧s.rest.length≤140737488355328∧s.err≤1000∧(∀ k,blk a=some k→k<w.heap.size)
theorem dh {w:World} {p:Nat} {v0 v1:Value} {T:TypeId} (h:w.heap[p]?=some (.cells #[v0,v1] T)):
  w.cell? ⟨p,0,none⟩=some v0∧w.cell? ⟨p,1,none⟩=some v1∧(∀ k,w.frozen? ⟨p,k,none⟩=false):=by simp [World.cell?,World.frozen?,h]
theorem kg {w:World} {p:Nat} {v0 v1:Value} {T:TypeId} (h:w.heap[p]?=some (.cells #[v0,v1] T)) (u:Value):(w.setCell ⟨p,0,none⟩ u).heap[p]?=some (.cells #[u,v1] T):=by rw [setCell_eq_setRow w p 0 _ T (0,0) u h,setRow_heap w p _ _ T (0,0) h];rfl
theorem set2_1 {w:World} {p:Nat} {v0 v1:Value} {T:TypeId} (h:w.heap[p]?=some (.cells #[v0,v1] T)) (u:Value):(w.setCell ⟨p,1,none⟩ u).heap[p]?=some (.cells #[v0,u] T):=by rw [setCell_eq_setRow w p 1 _ T (0,0) u h,setRow_heap w p _ _ T (0,0) h];rfl
theorem cA {w:World} {p:Nat} {o:Obj} (h:w.heap[p]?=some o):p<w.heap.size:=by rcases Nat.lt_or_ge p w.heap.size with h1|h1;exact h1;rw [bJ h1] at h;cases h
theorem IsR.lt {w:World} {p:Nat} {a:Option Addr} {cap:Nat} {s:RS} (h:IsR w p a cap s):p<w.heap.size:=by obtain ⟨⟨T,h⟩,_⟩:=h;exact cA h
theorem IsR.chg {F:Nat→Prop} {w w':World} {p:Nat} {a:Option Addr} {cap:Nat} {s:RS} (h:IsR w p a cap s) (hc:Chg F w w') (h1:¬ F p) (h2:∀ k,blk a=some k→¬ F k):IsR w' p a cap s:=by have hlt:=h.lt;obtain ⟨⟨T,h3⟩,h4,h5,h6,h7,h8,h9,h10⟩:=h;exact ⟨⟨T,(hc.block p hlt h1).trans h3⟩,h4.chg hc h2,h5,h6,h7,h8,h9,λk hk=>an (h10 k hk) hc.size⟩
theorem IsR.below {w w':World} {p:Nat} {a:Option Addr} {cap:Nat} {s:RS} (h:IsR w p a cap s) (hb:Below w.heap.size w w'):IsR w' p a cap s:=h.chg (F:=λ_=>False) (ac hb) (λf=>f) (λ_ _ f=>f)
theorem jJ (e:Int) (w:World):Calls prog 139 #[.bool true,.int .i64 e] w λr w'=>r= .returned (.tuple #[])∧w=w':=by go_enter func139,ntmps139;go_wp2_with fail;go_returns;exact ⟨rfl,rfl⟩
def de (e:Int) (b:Bool):PanicEntry:={v:= .iface 28 (.int .i64 e),recovered:=b}
theorem nX (e:Int) (w:World):Calls prog 139 #[.bool false,.int .i64 e] w λr w'=>r= .panicked [de e false]∧w=w':=by go_enter func139,ntmps139;go_wp2_with fail;exact ⟨rfl,rfl,rfl⟩
theorem iU (p:Nat) (a:Option Addr) (cap:Nat) (s:RS) (n:Int) (h0:0≤n) (hn:(s.rest.length:Int)<n) (w:World) (h:IsR w p a cap s):
  Calls prog 106 #[.pointer (some ⟨p,0,none⟩),.int .i64 n] w λr w'=>r= .panicked [de 2 false]∧w=w':=by obtain ⟨⟨T,h3⟩,_⟩:=h;obtain ⟨c0,c1,f⟩:=dh h3;have hd:decide (n≤(s.rest.length:Int))=false:=bo (by omega);clear h3 f;go_enter func106,ntmps106;go_wp2_with fail;refine (jJ 1 w).mono ?_;rintro _ _ ⟨rfl,rfl⟩;go_wp2_with fail;refine (nX 2 w).mono ?_;rintro _ _ ⟨rfl,rfl⟩;exact ⟨rfl,rfl,rfl⟩
def Took (w:World) (p:Nat) (a:Option Addr) (s:RS) (n:Nat) (r:Ending) (w':World):Prop:=
 ∃ oa cap2 a' cap',r= .returned (.slice oa n cap2)∧OB w' oa cap2 (s.rest.take n)∧(blk oa=none∨blk oa=some w.heap.size)∧IsR w' p a' cap' {s with rest:=s.rest.drop n}∧blk a'=blk a∧Chg (λk=>k=p) w w'
theorem blk_add (a:Option Addr) (n:Nat):blk (a.map (·.add n))=blk a:=by
 cases a with
 |none=>rfl
 |some x=>simp [blk,Addr.add];split<;>rfl
theorem ua {w w2:World} {p n:Nat} {a oa2 a':Option Addr} {cap cap2 cap':Nat} {s:RS} (h:IsR w p a cap s) (hn:n≤s.rest.length) (hO:OB w2 oa2 cap2 (s.rest.take n)) (hC:Chg (λ_=>False) w w2) (hb:blk oa2=none∨blk oa2=some w.heap.size)
  (ha:(cap=n∧a'=a∧cap'=0)∨(cap≠n∧a'=a.map (·.add n)∧cap'=cap-n)):
  Took w p a s n (.returned (.slice oa2 n cap2)) (w2.setCell ⟨p,0,none⟩ (.slice a' (s.rest.length-n) cap')):=by
   have hlt:=h.lt;obtain ⟨⟨T,h3⟩,h4,h5,h6,h7,h8,h9,h10⟩:=h;(have hbk:blk a'=blk a:=by rcases ha with ⟨_,rfl,_⟩|⟨_,rfl,_⟩;rfl;exact blk_add a n);have g3:=(hC.block p hlt (λf=>f)).trans h3;have hC2:Chg (λk=>k=p) w (w2.setCell ⟨p,0,none⟩ (.slice a' (s.rest.length-n) cap')):=(hC.mono (λ_ _ f=>f.elim)).setCell _ _ (λ_=>rfl);(have hop:blk oa2≠some p:=by rcases hb with e|e;rw [e];simp;rw [e];intro e2;cases e2;omega);have hdl:(s.rest.drop n).length=s.rest.length-n:=aL;refine ⟨oa2,cap2,a',cap',rfl,hO.chg (af w2 ⟨p,0,none⟩ _) (λk hk e=>hop (by rw [hk];exact congrArg some e)),hb,⟨⟨T,?_⟩,?_,?_,by rw [hbk];exact h6,?_,?_,h9,?_⟩,hbk,hC2⟩;rw [hdl];exact kg g3 _
   ·rcases h4 with h4|⟨b,off,rfl,hb1,hb2⟩;exact .inl (by simp [h4])
    ·by_cases hd:s.rest.drop n=[];exact .inl hd
     ·(have hd2:n<s.rest.length:=by rcases Nat.lt_or_ge n s.rest.length with h|h;exact h;exact absurd (List.drop_of_length_le h) hd);rcases ha with ⟨e,_⟩|⟨_,rfl,_⟩;omega;refine .inr ⟨b,off+n,by simp [cN],an hb1 hC2.size,λi hi=>?_⟩;rw [hdl] at hi;rw [hC2.cell (p:=⟨b,off+n+i,none⟩) hb1 (λe=>h6 (congrArg some e)),Nat.add_assoc,hb2 (n+i) (by omega)];simp [au,List.getElem?_drop]
   ·intro e;rcases ha with ⟨_,_,rfl⟩|⟨e1,e2,rfl⟩;rfl
    ·have:a=none:=by cases a with
       |none=>rfl
       |some x=>rw [e2] at e;cases e
     have:=h5 this;omega
   simp only [hdl];rcases ha with ⟨e,_,rfl⟩|⟨_,_,rfl⟩<;>omega;show (s.rest.drop n).length≤_;omega;intro k hk;rw [hbk] at hk;exact an (h10 k hk) hC2.size
theorem kJ (p:Nat) (a:Option Addr) (cap:Nat) (s:RS) (n:Nat) (hn:n≤s.rest.length) (w:World) (h:IsR w p a cap s):
  Calls prog 106 #[.pointer (some ⟨p,0,none⟩),.int .i64 (n:Int)] w (Took w p a s n):=by
   have Hs:=Hd h;obtain ⟨⟨T,h3⟩,h4,h5,h6,h7,h8,h9⟩:=h;obtain ⟨c0,c1,f⟩:=dh h3;(have hb:Bts w a (s.rest.take n):=by rcases h4 with h4|⟨b,off,rfl,hb1,hb2⟩;exact .inl (by rw [h4];simp);refine .inr ⟨b,off,rfl,hb1,λi hi=>?_⟩;rw [aC] at hi;rw [hb2 i (by omega)];simp [au,bI (show i<n by omega)]);(have hl:(s.rest.take n).length=n:=by rw [aC];omega);have Hl:=Hd hl;generalize hr:s.rest.length=m at c0 hn h7 h8;(have hni:(n:Int)≤(m:Int):=by omega);(have hni2:(n:Int)≤(cap:Int):=by omega);have hp:=cA h3;have h3':=h3;rw [hr] at h3';have Hr:=Hd hr;clear h3 h4 h6 h9 f hl hr;go_enter func106,ntmps106;go_wp2_with fail;refine (jJ 1 w).mono ?_;rintro _ _ ⟨rfl,rfl⟩;go_wp2_with fail;refine (jJ 2 w).mono ?_;rintro _ _ ⟨rfl,rfl⟩;go_wp2_with (at_builtin;go_must (refine cJ rfl (.const (.slice none 0 0)) (.tmp 22) rfl (n:=0) (bs:=[]) rfl rfl (ah _) Hl.out.symm rfl hb h5 (by omega) ?_);intro oa2 cap2 w2 hO2 hC2 hb2 _;have g3:=(hC2.block p hp (λe=>by cases e)).trans h3';obtain ⟨d0,d1,f⟩:=dh g3;have f0:=f 0;clear f);all_goals have hT:=λa' cap' ha=>ua (a':=a') (cap':=cap') Hs.out (by rw [Hr.out];exact hn) (by simpa using hO2) (hC2.mono (λ_ _ e=>by cases e)) hb2 ha;rw [Hr.out] at hT
   ·rename_i h;go_ret;exact hT a 0 (.inl ⟨h,rfl,rfl⟩)
   ·rename_i h;go_ret;exact hT _ _ (.inr ⟨h,rfl,rfl⟩)
theorem fK (a o r:Value):(#[a,o,r]++Array.replicate 23 undef:Array Value)=#[a,o,r,undef,undef,undef,undef,undef,undef,undef,undef,undef,undef,undef,undef,undef,undef,undef,undef,undef,undef,undef,undef,undef,undef,undef]:=by kernel_rfl
theorem gX (a o r:Value):26-#[a,o,r].size=23:=rfl
theorem nm (w:World):(Instr.typeAssert .nilIface 20 28 true).run prog w= .ok (.tuple #[.int .i64 0,.bool false]) w:=by kernel_rfl
theorem np (e:Int) (w:World):(Instr.typeAssert (.iface 28 (.int .i64 e)) 20 28 true).run prog w= .ok (.tuple #[.int .i64 e,.bool true]) w:=by kernel_rfl
theorem AF (a o r:Addr) (w:World):
  CallsD prog 193 #[.pointer (some a),.pointer (some o),.pointer (some r)] .returning w λe u' w'=>e= .returned (.tuple #[])∧u'= .returning∧w=w':=by have t0:=nm;refine callsD_of_wpS func193 rfl λc₀ cs hu=>?_;rw [ntmps193,gX,fK];apply wpS_seq;apply wpS_region;simp [wpOpsS,go_sem,recoverD,hu,Exit.thenS];refine wpS_of_wp ?_;have Hu:=Hd hu;clear hu;go_wp2_with fail;have hu:=Hu.out;cases c₀;simp_all [bodyPostS,results,results193]
theorem yK (a r:Addr) (go p:Nat) (e:Int) (old v0 v1:Value) (sa:Option Addr) (n cap:Nat) (T:TypeId) (w:World) (ha:w.cell? a=some (.slice sa n cap)) (ho:w.cell? ⟨go,0,none⟩=some old) (hf:w.frozen? ⟨go,0,none⟩=false)
  (hr:w.cell? r=some (.pointer (some ⟨p,0,none⟩))) (hp:w.heap[p]?=some (.cells #[v0,v1] T)) (hne:p≠go):
  CallsD prog 193 #[.pointer (some a),.pointer (some ⟨go,0,none⟩),.pointer (some r)] (.panicking [de e false]) w λx u' w'=>x= .returned (.tuple #[])∧u'= .panicking [de e true]∧
   ((w.setCell ⟨go,0,none⟩ (.int .i64 0)).setCell ⟨p,0,none⟩ (.slice sa n cap)).setCell ⟨p,1,none⟩ (.int .i64 e)=w':=by have t0:=np e;have g1:(w.setCell ⟨go,0,none⟩ (.int .i64 0)).heap[p]?=some (.cells #[v0,v1] T):=(bB _ _ _ _ hne).trans hp;obtain ⟨c0,c1,f⟩:=dh g1;have f0:=f 0;have g2:=kg g1 (.slice sa n cap);obtain ⟨d0,d1,f⟩:=dh g2;have f1:=f 1;clear f g1 g2 hp hne;refine callsD_of_wpS func193 rfl λc₀ cs hu=>?_;rw [ntmps193,gX,fK];simp only [de] at hu;apply wpS_seq;apply wpS_region;simp [wpOpsS,go_sem,recoverD,hu,Exit.thenS];refine wpS_of_wp ?_;have Hu:=Hd hu;clear hu;go_wp2_with fail;simp [bodyPostS,results,results193,de]
theorem uX (a o r:Addr) (w:World):
  CallsD prog 177 #[.pointer (some a),.pointer (some o),.pointer (some r)] .returning w λe u' w'=>e= .returned (.tuple #[])∧u'= .returning∧w=w':=by have t0:=nm;refine callsD_of_wpS func177 rfl λc₀ cs hu=>?_;rw [ntmps177,gX,fK];apply wpS_seq;apply wpS_region;simp [wpOpsS,go_sem,recoverD,hu,Exit.thenS];refine wpS_of_wp ?_;have Hu:=Hd hu;clear hu;go_wp2_with fail;have hu:=Hu.out;cases c₀;simp_all [bodyPostS,results,results177]
theorem tz (a r:Addr) (go p:Nat) (e:Int) (old v0 v1:Value) (sa:Option Addr) (n cap:Nat) (T:TypeId) (w:World) (ha:w.cell? a=some (.slice sa n cap)) (ho:w.cell? ⟨go,0,none⟩=some old) (hf:w.frozen? ⟨go,0,none⟩=false)
  (hr:w.cell? r=some (.pointer (some ⟨p,0,none⟩))) (hp:w.heap[p]?=some (.cells #[v0,v1] T)) (hne:p≠go):
  CallsD prog 177 #[.pointer (some a),.pointer (some ⟨go,0,none⟩),.pointer (some r)] (.panicking [de e false]) w λx u' w'=>x= .returned (.tuple #[])∧u'= .panicking [de e true]∧
   ((w.setCell ⟨go,0,none⟩ (.int .u8 0)).setCell ⟨p,0,none⟩ (.slice sa n cap)).setCell ⟨p,1,none⟩ (.int .i64 e)=w':=by have t0:=np e;have g1:(w.setCell ⟨go,0,none⟩ (.int .u8 0)).heap[p]?=some (.cells #[v0,v1] T):=(bB _ _ _ _ hne).trans hp;obtain ⟨c0,c1,f⟩:=dh g1;have f0:=f 0;have g2:=kg g1 (.slice sa n cap);obtain ⟨d0,d1,f⟩:=dh g2;have f1:=f 1;clear f g1 g2 hp hne;refine callsD_of_wpS func177 rfl λc₀ cs hu=>?_;rw [ntmps177,gX,fK];simp only [de] at hu;apply wpS_seq;apply wpS_region;simp [wpOpsS,go_sem,recoverD,hu,Exit.thenS];refine wpS_of_wp ?_;have Hu:=Hd hu;clear hu;go_wp2_with fail;simp [bodyPostS,results,results177,de]
theorem s8 (a o r:Addr) (w:World):
  CallsD prog 192 #[.pointer (some a),.pointer (some o),.pointer (some r)] .returning w λe u' w'=>e= .returned (.tuple #[])∧u'= .returning∧w=w':=by have t0:=nm;refine callsD_of_wpS func192 rfl λc₀ cs hu=>?_;rw [ntmps192,gX,fK];apply wpS_seq;apply wpS_region;simp [wpOpsS,go_sem,recoverD,hu,Exit.thenS];refine wpS_of_wp ?_;have Hu:=Hd hu;clear hu;go_wp2_with fail;have hu:=Hu.out;cases c₀;simp_all [bodyPostS,results,results192]
theorem qN (a r:Addr) (go p:Nat) (e:Int) (old v0 v1:Value) (sa:Option Addr) (n cap:Nat) (T:TypeId) (w:World) (ha:w.cell? a=some (.slice sa n cap)) (ho:w.cell? ⟨go,0,none⟩=some old) (hf:w.frozen? ⟨go,0,none⟩=false)
  (hr:w.cell? r=some (.pointer (some ⟨p,0,none⟩))) (hp:w.heap[p]?=some (.cells #[v0,v1] T)) (hne:p≠go):
  CallsD prog 192 #[.pointer (some a),.pointer (some ⟨go,0,none⟩),.pointer (some r)] (.panicking [de e false]) w λx u' w'=>x= .returned (.tuple #[])∧u'= .panicking [de e true]∧
   ((w.setCell ⟨go,0,none⟩ (.int .u16 0)).setCell ⟨p,0,none⟩ (.slice sa n cap)).setCell ⟨p,1,none⟩ (.int .i64 e)=w':=by have t0:=np e;have g1:(w.setCell ⟨go,0,none⟩ (.int .u16 0)).heap[p]?=some (.cells #[v0,v1] T):=(bB _ _ _ _ hne).trans hp;obtain ⟨c0,c1,f⟩:=dh g1;have f0:=f 0;have g2:=kg g1 (.slice sa n cap);obtain ⟨d0,d1,f⟩:=dh g2;have f1:=f 1;clear f g1 g2 hp hne;refine callsD_of_wpS func192 rfl λc₀ cs hu=>?_;rw [ntmps192,gX,fK];simp only [de] at hu;apply wpS_seq;apply wpS_region;simp [wpOpsS,go_sem,recoverD,hu,Exit.thenS];refine wpS_of_wp ?_;have Hu:=Hd hu;clear hu;go_wp2_with fail;simp [bodyPostS,results,results192,de]
theorem sZ (a o r:Addr) (w:World):
  CallsD prog 138 #[.pointer (some a),.pointer (some o),.pointer (some r)] .returning w λe u' w'=>e= .returned (.tuple #[])∧u'= .returning∧w=w':=by have t0:=nm;refine callsD_of_wpS func138 rfl λc₀ cs hu=>?_;rw [ntmps138,gX,fK];apply wpS_seq;apply wpS_region;simp [wpOpsS,go_sem,recoverD,hu,Exit.thenS];refine wpS_of_wp ?_;have Hu:=Hd hu;clear hu;go_wp2_with fail;have hu:=Hu.out;cases c₀;simp_all [bodyPostS,results,results138]
theorem qM (a r:Addr) (go p:Nat) (e:Int) (old v0 v1:Value) (sa:Option Addr) (n cap:Nat) (T:TypeId) (w:World) (ha:w.cell? a=some (.slice sa n cap)) (ho:w.cell? ⟨go,0,none⟩=some old) (hf:w.frozen? ⟨go,0,none⟩=false)
  (hr:w.cell? r=some (.pointer (some ⟨p,0,none⟩))) (hp:w.heap[p]?=some (.cells #[v0,v1] T)) (hne:p≠go):
  CallsD prog 138 #[.pointer (some a),.pointer (some ⟨go,0,none⟩),.pointer (some r)] (.panicking [de e false]) w λx u' w'=>x= .returned (.tuple #[])∧u'= .panicking [de e true]∧
   ((w.setCell ⟨go,0,none⟩ (.int .u32 0)).setCell ⟨p,0,none⟩ (.slice sa n cap)).setCell ⟨p,1,none⟩ (.int .i64 e)=w':=by have t0:=np e;have g1:(w.setCell ⟨go,0,none⟩ (.int .u32 0)).heap[p]?=some (.cells #[v0,v1] T):=(bB _ _ _ _ hne).trans hp;obtain ⟨c0,c1,f⟩:=dh g1;have f0:=f 0;have g2:=kg g1 (.slice sa n cap);obtain ⟨d0,d1,f⟩:=dh g2;have f1:=f 1;clear f g1 g2 hp hne;refine callsD_of_wpS func138 rfl λc₀ cs hu=>?_;rw [ntmps138,gX,fK];simp only [de] at hu;apply wpS_seq;apply wpS_region;simp [wpOpsS,go_sem,recoverD,hu,Exit.thenS];refine wpS_of_wp ?_;have Hu:=Hd hu;clear hu;go_wp2_with fail;simp [bodyPostS,results,results138,de]
theorem sY (a o r:Addr) (w:World):
  CallsD prog 176 #[.pointer (some a),.pointer (some o),.pointer (some r)] .returning w λe u' w'=>e= .returned (.tuple #[])∧u'= .returning∧w=w':=by have t0:=nm;refine callsD_of_wpS func176 rfl λc₀ cs hu=>?_;rw [ntmps176,gX,fK];apply wpS_seq;apply wpS_region;simp [wpOpsS,go_sem,recoverD,hu,Exit.thenS];refine wpS_of_wp ?_;have Hu:=Hd hu;clear hu;go_wp2_with fail;have hu:=Hu.out;cases c₀;simp_all [bodyPostS,results,results176]
theorem qL (a r:Addr) (go p:Nat) (e:Int) (old v0 v1:Value) (sa:Option Addr) (n cap:Nat) (T:TypeId) (w:World) (ha:w.cell? a=some (.slice sa n cap)) (ho:w.cell? ⟨go,0,none⟩=some old) (hf:w.frozen? ⟨go,0,none⟩=false)
  (hr:w.cell? r=some (.pointer (some ⟨p,0,none⟩))) (hp:w.heap[p]?=some (.cells #[v0,v1] T)) (hne:p≠go):
  CallsD prog 176 #[.pointer (some a),.pointer (some ⟨go,0,none⟩),.pointer (some r)] (.panicking [de e false]) w λx u' w'=>x= .returned (.tuple #[])∧u'= .panicking [de e true]∧
   ((w.setCell ⟨go,0,none⟩ (.int .u64 0)).setCell ⟨p,0,none⟩ (.slice sa n cap)).setCell ⟨p,1,none⟩ (.int .i64 e)=w':=by have t0:=np e;have g1:(w.setCell ⟨go,0,none⟩ (.int .u64 0)).heap[p]?=some (.cells #[v0,v1] T):=(bB _ _ _ _ hne).trans hp;obtain ⟨c0,c1,f⟩:=dh g1;have f0:=f 0;have g2:=kg g1 (.slice sa n cap);obtain ⟨d0,d1,f⟩:=dh g2;have f1:=f 1;clear f g1 g2 hp hne;refine callsD_of_wpS func176 rfl λc₀ cs hu=>?_;rw [ntmps176,gX,fK];simp only [de] at hu;apply wpS_seq;apply wpS_region;simp [wpOpsS,go_sem,recoverD,hu,Exit.thenS];refine wpS_of_wp ?_;have Hu:=Hd hu;clear hu;go_wp2_with fail;simp [bodyPostS,results,results176,de]
end Go.Proofs.YtchbedbmjiabgaaGreatDoor.Wi
