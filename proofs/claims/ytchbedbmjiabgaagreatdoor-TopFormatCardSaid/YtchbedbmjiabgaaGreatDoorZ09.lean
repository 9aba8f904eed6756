/- TopFormat, part 9 of the proof: PKid TLook SupL. No condition. -/
import Derived.Test.YtchbedbmjiabgaaGreatDoorZ08
set_option linter.all false
set_option maxHeartbeats 16000000
set_option maxRecDepth 100000
namespace Go.Proofs.YtchbedbmjiabgaaGreatDoor
open Go.RowKit Go.Proofs.Tryz
def eN:Elt:={t:=96,e:=3,size:=1,bytes:=8,z:= .int .i64 0,hu:=underlying96,hi:=by kernel_rfl,hz:=rfl,h0:=by decide}
def cj (l:List Int):List Value:=l.map λx=>Value.int .i64 x
def ON (w:World) (oa:Option Addr) (cap:Nat) (l:List Int):Prop:=OR eN w oa cap l.length (cj l)
def jf (kind:Int) (x:PI):List Int:=if kind=2∨(kind=1∧x.child≠0) then [x.child] else []
def di (kind:Int) (xs:List PI):List Int:=xs.flatMap (jf kind)
def fw (p:PP):List Int:=di p.kind p.items++if p.kind=3∧p.next≠0 then [p.next] else []
theorem n5 {kind:Int} {xs:List PI} {j:Nat} {x:PI} (h:xs[j]?=some x):di kind (xs.take (j+1))=di kind (xs.take j)++jf kind x:=by rw [bm,h];simp [di]
theorem pF (kind:Int) (xs:List PI):(di kind xs).length≤xs.length:=by
 induction xs with
 |nil=>simp [di]
 |cons x xs ih=>have e:di kind (x::xs)=jf kind x++di kind xs:=rfl;rw [e,aq,aG];unfold jf;split<;>simp<;>omega
def zm (l:List Int) (w:World) (x:Ending) (w':World):Prop:=
 ∃ oa cap,x= .returned (.slice oa l.length cap)∧ON w' oa cap l∧(∀ k,blk oa=some k→w.heap.size≤k)∧Below w.heap.size w w'
def y9 (w0:World) (p:PP) (ia:Option Addr) (ic:Nat) (da:Option Addr) (dc:Nat) (o i:Value) (wr:World):Prop:=
 ∃ (j:Nat) (oa:Option Addr) (cap:Nat),j≤p.items.length∧i= .int .i64 j∧o= .slice oa (di p.kind (p.items.take j)).length cap∧ON wr oa cap (di p.kind (p.items.take j))∧(∀ k,blk oa=some k→w0.heap.size<k)∧DB w0 p ia ic da dc wr
theorem DB.chgF {w0:World} {p:PP} {ia:Option Addr} {ic:Nat} {da:Option Addr} {dc:Nat} {w w':World} (h:DB w0 p ia ic da dc w) {F:Nat→Prop} (hc:Chg F w w') (hF:∀ k,F k→w0.heap.size<k):DB w0 p ia ic da dc w':=by refine ⟨?_,h.bel.trans (hc.below h.bel.size (λk e=>by have:=hF k e;omega))⟩;rw [hc.block _ (ci h.box) (λf=>by have:=hF _ f;omega)];exact h.box
theorem ur {w0:World} {p:PP} {ia:Option Addr} {ic:Nat} {da:Option Addr} {dc:Nat} {j:Nat} {x:PI} (hx:p.items[j]?=some x) (hk:jf p.kind x=[]) {oa:Option Addr} {cap:Nat} {wr:World} (hO:ON wr oa cap (di p.kind (p.items.take j))) (ho:∀ k,blk oa=some k→w0.heap.size<k) (hD:DB w0 p ia ic da dc wr) {i:Value} (hi:i= .int .i64 ((j+1:Nat):Int)):
  y9 w0 p ia ic da dc (.slice oa (di p.kind (p.items.take j)).length cap) i wr:=by (have e:di p.kind (p.items.take (j+1))=di p.kind (p.items.take j):=by rw [n5 hx,hk,bC]);exact ⟨j+1,oa,cap,(ar.1 hx).1,hi,by rw [e],by rw [e];exact hO,ho,hD⟩
theorem ut {w0:World} {p:PP} {ia:Option Addr} {ic:Nat} {da:Option Addr} {dc:Nat} {j:Nat} {x:PI} (hx:p.items[j]?=some x) (hk:jf p.kind x=[x.child]) {oa oa':Option Addr} {cap':Nat} {w w':World} (ho:∀ k,blk oa=some k→w0.heap.size<k) (hD:DB w0 p ia ic da dc w)
  (hO:OR eN w' oa' cap' ((di p.kind (p.items.take j)).length+1) (cj (di p.kind (p.items.take j))++[.int .i64 x.child])) (hC:Chg (λk=>blk oa=some k) w w') (hb:blk oa'=blk oa∨blk oa'=some w.heap.size) {i:Value} (hi:i= .int .i64 ((j+1:Nat):Int)):
  y9 w0 p ia ic da dc (.slice oa' ((di p.kind (p.items.take j)).length+1) cap') i w':=by (have e:di p.kind (p.items.take (j+1))=di p.kind (p.items.take j)++[x.child]:=by rw [n5 hx,hk]);refine ⟨j+1,oa',cap',(ar.1 hx).1,hi,by rw [e,aq];rfl,?_,λk hk=>?_,hD.chgF hC ho⟩;unfold ON;rw [e,aq,show cj (di p.kind (p.items.take j)++[x.child])=cj (di p.kind (p.items.take j))++[.int .i64 x.child] by simp [cj]];exact hO;rcases hb with hb|hb;exact ho k (hb▸hk);rw [hb] at hk;cases hk;exact ci hD.box
theorem AB {w0:World} {p:PP} {ia:Option Addr} {ic:Nat} {da:Option Addr} {dc:Nat} {oa:Option Addr} {cap:Nat} {w:World} (hk:¬ (p.kind=3∧p.next≠0)) (hO:ON w oa cap (di p.kind p.items)) (ho:∀ k,blk oa=some k→w0.heap.size<k) (hD:DB w0 p ia ic da dc w):
  zm (fw p) w0 (.returned (.slice oa (di p.kind p.items).length cap)) w:=by (have e:fw p=di p.kind p.items:=by unfold fw;rw [bg hk,bC]);rw [e];exact ⟨oa,cap,rfl,hO,λk h=>Nat.le_of_lt (ho k h),hD.bel⟩
theorem yd {w0:World} {p:PP} {ia:Option Addr} {ic:Nat} {da:Option Addr} {dc:Nat} {oa oa':Option Addr} {cap':Nat} {w w':World} (hk:p.kind=3∧p.next≠0) (ho:∀ k,blk oa=some k→w0.heap.size<k) (hD:DB w0 p ia ic da dc w)
  (hO:OR eN w' oa' cap' ((di p.kind p.items).length+1) (cj (di p.kind p.items)++[.int .i64 p.next])) (hC:Chg (λk=>blk oa=some k) w w') (hb:blk oa'=blk oa∨blk oa'=some w.heap.size):
  zm (fw p) w0 (.returned (.slice oa' ((di p.kind p.items).length+1) cap')) w':=by (have e:fw p=di p.kind p.items++[p.next]:=by unfold fw;rw [bh hk]);rw [e];refine ⟨oa',cap',by rw [aq];rfl,?_,λk hk=>?_,(hD.chgF hC ho).bel⟩;unfold ON;rw [aq,show cj (di p.kind p.items++[p.next])=cj (di p.kind p.items)++[.int .i64 p.next] by simp [cj]];exact hO;rcases hb with hb|hb;exact Nat.le_of_lt (ho k (hb▸hk));rw [hb] at hk;cases hk;exact Nat.le_of_lt (ci hD.box)
theorem DB.two {w0:World} {p:PP} {ia:Option Addr} {ic:Nat} {da:Option Addr} {dc:Nat} {w:World} (h:DB w0 p ia ic da dc w) (o1 o2:Obj):DB w0 p ia ic da dc ((w.alloc o1).alloc o2):=h.below (dA _ _ _)
theorem ON.two {w:World} {oa:Option Addr} {cap:Nat} {l:List Int} (h:ON w oa cap l) (o1 o2:Obj):ON ((w.alloc o1).alloc o2) oa cap l:=aj h (F:=λ_=>False) (ac (dA _ _ _)) (λ_ _ f=>f)
theorem DB.one {w0:World} {p:PP} {ia:Option Addr} {ic:Nat} {da:Option Addr} {dc:Nat} {w:World} (h:DB w0 p ia ic da dc w) (o1:Obj):DB w0 p ia ic da dc (w.alloc o1):=h.below (bY _ _)
theorem ON.one {w:World} {oa:Option Addr} {cap:Nat} {l:List Int} (h:ON w oa cap l) (o1:Obj):ON (w.alloc o1) oa cap l:=aj h (F:=λ_=>False) (ac (bY _ _)) (λ_ _ f=>f)
theorem cw {n j:Nat} (h:j<n):n-(intOf (.int .i64 ((j:Int)+1))).toNat<n-(intOf (.int .i64 (j:Int))).toNat:=by simp only [intOf];omega
theorem qo {kind:Int} {x:PI} (h:kind=2∨(kind=1∧x.child≠0)):jf kind x=[x.child]:=by unfold jf;rw [bh h]
theorem zB {kind:Int} {x:PI} (h:¬ (kind=2∨(kind=1∧x.child≠0))):jf kind x=[]:=by unfold jf;rw [bg h]
theorem xF (p:PP) (ia:Option Addr) (ic:Nat) (da:Option Addr) (dc:Nat) (w:World) (hp:PgAt w.heap.size w p ia ic da dc) (hlen:p.items.length≤4000000000000):
  Calls prog 169 #[pgv p ia ic da dc] w (zm (fw p) w):=by
   have HP:=Hd hp;have HD:=Hd (DB.start w p ia ic da dc);obtain ⟨kind,level,items,data,next⟩:=p;simp only [pgv] at*;obtain ⟨n,hn⟩:∃ n,items.length=n:=⟨_,rfl⟩;obtain ⟨m,hm⟩:∃ m,data.length=m:=⟨_,rfl⟩;rw [hn,hm] at HD⊢;rw [hn] at hlen;have HN:=Hd hn;have HM:=Hd hm;clear hp hn hm;go_enter func169,ntmps169;have hD:=HD.out;obtain ⟨c0,c1,c2,c3,c4⟩:=cV hD.box;simp only [] at c0 c1 c2 c3 c4;rw [HN.out] at c2;rw [HM.out] at c3;go_wp2_with fail;clear c0 c1 c2 c3 c4 hD;go_loopw [3,9] (λo i wr=>y9 w ⟨kind,level,items,data,next⟩ ia ic da dc o i wr) (λ_ i _=>n-(intOf i).toNat);case atStart=>exact ⟨0,none,0,aV _,rfl,rfl,ak eN _,λk e=>(by cases e),HD.out⟩
   case round=>
    clear HD;obtain ⟨j,oa,cap,hj,rfl,rfl,hO,ho,hD⟩:=hrel;simp only [] at hj hO;rw [HN.out] at hj;have hlc:(di kind (items.take j)).length≤n:=ao (pF _ _) (by rw [aC,HN.out];exact Nat.min_le_right _ _);by_cases hjn:j<n
    ·obtain ⟨x,hx⟩:∃ x,items[j]?=some x:=⟨_,ap (by rw [HN.out];exact hjn)⟩;obtain ⟨b,off,ka,kc,va,vc,rfl,hb,hit⟩:=HP.out.its.at hx;have hd1:=hit.below hb hD.bel;have i0:=hd1.c0;have i1:=hd1.c1;have i2:=hd1.c2;have i3:=hd1.c3;obtain ⟨key,value,child,size⟩:=x;simp only [] at i0 i1 i2 i3;have HDa:=Hd (hD.one (.cells #[.slice ka key.length kc,.slice va value.length vc,.int .i64 child,.int .i64 size] 216));have HOa:=Hd (hO.one (.cells #[.slice ka key.length kc,.slice va value.length vc,.int .i64 child,.int .i64 size] 216));have D4:=Hd λhk i hi=>ur (p:=⟨kind,level,items,data,next⟩) hx hk HOa.out ho HDa.out (i:=i) hi;have C8:=Hd λhk w1 (hD1:DB w ⟨kind,level,items,data,next⟩ (some ⟨b,off,none⟩) ic da dc w1) w' oa' cap' hO' hC hb' i hi=>ut (p:=⟨kind,level,items,data,next⟩) hx hk (w:=w1) (w':=w') (oa':=oa') (cap':=cap') ho hD1 hO' hC hb' (i:=i) hi;have HR:=Hd (az wr (.cells #[.slice ka key.length kc,.slice va value.length vc,.int .i64 child,.int .i64 size] 216));have HJ:=Hd hjn;simp only [] at D4 C8;generalize di kind (items.take j)=ks at HOa D4 C8 hlc⊢;have hnw:=fv (wr.alloc (.cells #[.slice ka key.length kc,.slice va value.length vc,.int .i64 child,.int .i64 size] 216)) (.int .i64 child) 3;rw [show (wr.alloc (.cells #[.slice ka key.length kc,.slice va value.length vc,.int .i64 child,.int .i64 size] 216)).heap.size=wr.heap.size+1 by simp] at hnw;have BR:=Hd hnw;clear hD hO hx hit hd1 hnw;obtain ⟨c0,c1,c2,c3,c4⟩:=cV HDa.out.box;simp only [] at c0 c1 c2 c3 c4;rw [HN.out] at c2;rw [HM.out] at c3;by_cases h2:kind=2
     ·subst h2;have HDb:=Hd (HDa.out.one (.cells #[.int .i64 child] 3));have HOb:=Hd (HOa.out.one (.cells #[.int .i64 child] 3));go_wp2_with (at_builtin;go_must (refine cg eN rfl (.tmp 26) (.tmp 29) rfl rfl HOb.out rfl (m:=1) (news:=[.int .i64 child]) rfl (.inr ⟨_,rfl,BR.out⟩) (by simp [Value.oneCell']) (by show (ks.length+1)*8≤_;omega) (by omega) ?_);intro oa2 cap2 w10 hO10 hC10 hb10 _);go_roundw;(case rel=>exact C8.out (qo (.inl rfl)) _ HDb.out _ _ _ hO10 hC10 hb10 _ (by go_num));case measure=>exact cw HJ.out
     ·(have h2d:(kind==2)=false:=by rw [br];exact h2);by_cases h1:kind=1
      ·subst h1;by_cases hc0:child=0
       ·subst hc0;go_wp2_with fail;go_roundw;(case rel=>exact D4.out (zB (by simp)) _ (by go_num));case measure=>exact cw HJ.out
       ·(have hcd:(child != 0)=true:=by rw [bO];exact hc0);have HDb:=Hd (HDa.out.one (.cells #[.int .i64 child] 3));have HOb:=Hd (HOa.out.one (.cells #[.int .i64 child] 3));go_wp2_with (at_builtin;go_must (refine cg eN rfl (.tmp 26) (.tmp 29) rfl rfl HOb.out rfl (m:=1) (news:=[.int .i64 child]) rfl (.inr ⟨_,rfl,BR.out⟩) (by simp [Value.oneCell']) (by show (ks.length+1)*8≤_;omega) (by omega) ?_);intro oa2 cap2 w10 hO10 hC10 hb10 _);go_roundw;(case rel=>exact C8.out (qo (.inr ⟨rfl,hc0⟩)) _ HDb.out _ _ _ hO10 hC10 hb10 _ (by go_num));case measure=>exact cw HJ.out
      ·(have h1d:(kind==1)=false:=by rw [br];exact h1);go_wp2_with fail;go_roundw;(case rel=>exact D4.out (zB (by intro g;rcases g with g|g;exact h2 g;exact h1 g.1)) _ (by go_num));case measure=>exact cw HJ.out
    ·(obtain rfl:j=n:=by omega);rw [av (by rw [HN.out];exact am _)] at hO hlc⊢;have Ca:=Hd λhk=>AB (p:=⟨kind,level,items,data,next⟩) hk hO ho hD;have FY:=Hd λhk w1 (hD1:DB w ⟨kind,level,items,data,next⟩ ia ic da dc w1) w' oa' cap' hO' hC hb'=>yd (p:=⟨kind,level,items,data,next⟩) hk (w:=w1) (w':=w') (oa':=oa') (cap':=cap') ho hD1 hO' hC hb';have HDb:=Hd (hD.one (.cells #[.int .i64 next] 3));have HOb:=Hd (ON.one hO (.cells #[.int .i64 next] 3));obtain ⟨c0,c1,c2,c3,c4⟩:=cV hD.box;simp only [] at c0 c1 c2 c3 c4 Ca FY;rw [HN.out] at c2;rw [HM.out] at c3;generalize di kind items=ks at HOb Ca FY hlc⊢;clear hD hO;by_cases h3:kind=3
     ·subst h3;by_cases hn0:next=0
      ·subst hn0;go_wp2_with fail;go_ret;exact Ca.out (by simp)
      ·(have hnd:(next != 0)=true:=by rw [bO];exact hn0);have d4:=(cV HDb.out.box).2.2.2.2;go_wp2_with (at_builtin;refine cg eN rfl (.tmp 40) (.tmp 43) rfl rfl HOb.out rfl (m:=1) (news:=[.int .i64 next]) rfl (.inr ⟨_,rfl,fv _ _ _⟩) (by simp [Value.oneCell']) (by show (ks.length+1)*8≤_;omega) (by omega) ?_;intro oa2 cap2 w10 hO10 hC10 hb10 _);go_ret;exact FY.out (by simp [hn0]) _ HDb.out _ _ _ hO10 hC10 hb10
     ·(have h3d:(kind==3)=false:=by rw [br];exact h3);go_wp2_with fail;go_ret;exact Ca.out (λg=>h3 g.1)
def vQ (g:Nat) (s:Wi.Su.SP) (ra:Option Addr) (rc:Nat) (P:Nat):Obj:= .cells #[.pointer (some ⟨g,0,none⟩),.int .i64 s.gen,.int .i64 s.cf.blocks,.int .i64 s.cf.clones,.int .i64 s.cf.refs,.int .i64 s.next,.slice ra s.roots.length rc,.int .i64 (P:Int),.int .i64 (Wi.Su.bankN P:Int),.int .i64 ((2+2*Wi.Su.bankN P:Nat):Int)] 187
structure LkAt (w:World) (l g n:Nat) (img:Int→List UInt8) (s:Wi.Su.SP) (ra:Option Addr) (rc P:Nat):Prop where
 row:w.heap[l]?=some (vQ g s ra rc P)
 dk:DkAt w g n img
 fit:2+2*Wi.Su.bankN P+P≤n
 small:n≤65536
 gen:0≤s.gen∧s.gen≤1099511627776
theorem LkAt.below {w w':World} {l g n:Nat} {img:Int→List UInt8} {s:Wi.Su.SP} {ra:Option Addr} {rc P:Nat} (h:LkAt w l g n img s ra rc P) (hb:Below w.heap.size w w'):LkAt w' l g n img s ra rc P:=
 ⟨(hb.block _ (rltT h.row)).trans h.row,h.dk.below hb,h.fit,h.small,h.gen⟩
def IsErr (w:World) (v:Value):Prop:=(∃ e:Int,e≠0∧v= .iface 28 (.int .i64 e))∨∃ (f:Nat) (b e:Int),v= .iface 236 (.pointer (some ⟨f,0,none⟩))∧w.heap[f]?=some (.cells #[.int .i64 b,.iface 28 (.int .i64 e)] 238)
theorem IsErr.below {w w':World} {v:Value} (h:IsErr w v) (hb:Below w.heap.size w w'):IsErr w' v:=by rcases h with h|⟨f,b,e,h1,h2⟩;exact .inl h;exact .inr ⟨f,b,e,h1,(hb.block _ (rltT h2)).trans h2⟩
theorem IsErr.ne {w:World} {v:Value} (h:IsErr w v):v≠ .nilIface:=by rcases h with ⟨e, -,rfl⟩|⟨f,b,e,rfl, -⟩<;>intro h<;>cases h
def LBlkP (bs:List UInt8) (w:World) (x:Ending) (w':World):Prop:=∃ a c,x= .returned (.tuple #[.slice a 512 c,.nilIface])∧OB w' a c bs∧(∀ k,blk a=some k→w.heap.size≤k)∧Below w.heap.size w w'
theorem jF {w:World} {l g:Nat} {s:Wi.Su.SP} {ra:Option Addr} {rc P:Nat} (h:w.heap[l]?=some (vQ g s ra rc P)):w.cell? ⟨l,0,none⟩=some (.pointer (some ⟨g,0,none⟩))∧w.cell? ⟨l,1,none⟩=some (.int .i64 s.gen)∧w.cell? ⟨l,4,none⟩=some (.int .i64 s.cf.refs)∧w.cell? ⟨l,7,none⟩=some (.int .i64 (P:Int))∧w.cell? ⟨l,8,none⟩=some (.int .i64 (Wi.Su.bankN P:Int))∧w.cell? ⟨l,9,none⟩=some (.int .i64 ((2+2*Wi.Su.bankN P:Nat):Int)):=
 ⟨bd _ _ 0 _ _ _ h,bd _ _ 1 _ _ _ h,bd _ _ 4 _ _ _ h,bd _ _ 7 _ _ _ h,bd _ _ 8 _ _ _ h,bd _ _ 9 _ _ _ h⟩
section
variable {w:World} {l g n:Nat} {img:Int→List UInt8} {s:Wi.Su.SP} {ra:Option Addr} {rc P:Nat}
theorem n4 (i:Int) (h:LkAt w l g n img s ra rc P) (h0:0≤i) (h1:i<(n:Int)):Calls prog 110 #[.pointer (some ⟨l,0,none⟩),.int .i64 i] w (LBlkP (img i) w):=by have Cg:=Hd (wG i h.dk h0 h1 (by have:=h.small;omega));obtain ⟨c0, -⟩:=jF h.row;clear h;go_enter func110,ntmps110;go_wp2_with fail;refine Cg.out.mono ?_;rintro _ w2 ⟨a,c,rfl,hO,ha,hb⟩;have HO:=Hd hO;have HA:=Hd ha;have HB:=Hd hb;clear hO ha hb;go_wp2_with fail;go_ret2;exact ⟨a,c,rfl,HO.out,HA.out,HB.out⟩
def fA (s:Wi.Su.SP) (P:Nat):Int:=2+s.gen%2*(Wi.Su.bankN P:Int)
theorem k6 (h:LkAt w l g n img s ra rc P):0≤fA s P∧fA s P+(Wi.Su.bankN P:Int)≤((2+2*Wi.Su.bankN P:Nat):Int)∧((2+2*Wi.Su.bankN P:Nat):Int)+P≤n∧Wi.Su.bankN P≤40000∧P≤65536:=by
 have h1:=h.fit;have h2:=h.small;unfold fA;have h3:s.gen%2=0∨s.gen%2=1:=by omega
 rcases h3 with h3|h3<;>rw [h3]<;>omega
theorem sU (i:Nat) (h:LkAt w l g n img s ra rc P) (hi:i<Wi.Su.bankN P):Calls prog 109 #[.pointer (some ⟨l,0,none⟩),.int .i64 (i:Int)] w λe w'=>e= .returned (.int .i64 (fA s P+i))∧Below w.heap.size w w':=by obtain ⟨b1,b2,b3,b4,b5⟩:=k6 h;have hw:IntKind.i64.wrap (fA s P+i)=fA s P+i:=bD _ (by omega);obtain ⟨c0,c1,c2,c3,c4,c5⟩:=jF h.row;have BG:=Hd λw' (hb:Below w.heap.size w w')=>(show (λw':World=>w'.cell? ⟨l,1,none⟩=some (.int .i64 s.gen)∧w'.cell? ⟨l,7,none⟩=some (.int .i64 (P:Int))∧w'.cell? ⟨l,8,none⟩=some (.int .i64 (Wi.Su.bankN P:Int))∧w'.cell? ⟨l,9,none⟩=some (.int .i64 ((2+2*Wi.Su.bankN P:Nat):Int))) w' from by obtain ⟨d0,d1,d2,d3,d4,d5⟩:=jF (h.below hb).row;exact ⟨d1,d3,d4,d5⟩);have D6:=Hd λw'=>pS (P:Int) (Wi.Su.bankN P:Int) ((2+2*Wi.Su.bankN P:Nat):Int) (s.gen%2) (by omega) (by omega) w';have Bf:=Hd (BG.out _ (aA w.heap.size w).drew);have HBI:=Hd (show 2+s.gen%2*(Wi.Su.bankN P:Int)=fA s P from rfl);generalize fA s P=bi at*;generalize s.gen=gn at*;generalize ((2+2*Wi.Su.bankN P:Nat):Int)=fi at*;generalize (Wi.Su.bankN P:Int)=bk at*;clear h c0 c1 c2 c3 c4 c5 b1 b2 b3 b4 b5 hi;go_enter func109,ntmps109;go_wp2_with fail;refine cn (λw':World=>w'.cell? ⟨l,1,none⟩=some (.int .i64 gn)∧w'.cell? ⟨l,7,none⟩=some (.int .i64 (P:Int))∧w'.cell? ⟨l,8,none⟩=some (.int .i64 bk)∧w'.cell? ⟨l,9,none⟩=some (.int .i64 fi)) 13 (by kernel_rfl) (by kernel_rfl) ?_;change At _ _ _ _ _ _ 14 #[false,false,false,false,false,false,false,false,false,false,false,false,false,false] _ _;refine aK 0 rfl (by kernel_rfl) rfl (λ_ _ _ h=>h) Bf.out (by intro w' h;go_simp<;>with_reducible rfl) ?_;simp only [Act.put,LA,LZ,LS];refine aK 1 rfl (by kernel_rfl) rfl (λ_ _ _ h=>h) Bf.out (by intro w' h;go_simp<;>with_reducible rfl) ?_;simp only [Act.put,LA,LZ,LS];refine aK 2 rfl (by kernel_rfl) rfl (λ_ _ _ h=>h) Bf.out (by intro w' h;go_simp<;>with_reducible rfl) ?_;simp only [Act.put,LA,LZ,LS];refine aK 3 rfl (by kernel_rfl) rfl (λ_ _ _ h=>h) Bf.out (by intro w' h;go_simp<;>with_reducible rfl) ?_;simp only [Act.put,LA,LZ,LS];refine aK 4 rfl (by kernel_rfl) rfl (λ_ _ _ h=>h) Bf.out (by intro w' h;go_simp<;>with_reducible rfl) ?_;simp only [Act.put,LA,LZ,LS];refine aK 5 rfl (by kernel_rfl) rfl (λ_ _ _ h=>h) Bf.out (by intro w' h;go_simp<;>with_reducible rfl) ?_;simp only [Act.put,LA,LZ,LS];refine aK 6 rfl (by kernel_rfl) rfl (λ_ _ _ h=>h) Bf.out (by intro w' h;go_simp<;>with_reducible rfl) ?_;simp only [Act.put,LA,LZ,LS];refine aK 7 rfl (by kernel_rfl) rfl (λ_ _ _ h=>h) Bf.out (by intro w' h;go_simp<;>with_reducible rfl) ?_;simp only [Act.put,LA,LZ,LS];refine aK 8 rfl (by kernel_rfl) rfl (λ_ _ _ h=>h) Bf.out (by intro w' h;go_simp<;>with_reducible rfl) ?_;simp only [Act.put,LA,LZ,LS];refine aK 11 rfl (by kernel_rfl) rfl (λ_ _ _ h=>h) Bf.out (by intro w' h;go_simp<;>with_reducible rfl) ?_;simp only [Act.put,LA,LZ,LS];refine aO 9 rfl (by kernel_rfl) rfl ?_;intro K hK;go_simp;refine (fE gn _).mono ?_;rintro _ w2 ⟨rfl,rfl⟩;go_simp;refine hK _ _ Bf.out ?_;clear hK K;simp only [Act.put,LA,LZ,LS];refine aO 10 rfl (by kernel_rfl) rfl ?_;intro K hK;go_simp;refine (D6.out _).mono ?_;rintro _ w3 ⟨rfl,hb⟩;have HB:=Hd (show Below w.heap.size w w3 from (aA w.heap.size w).drew.trans hb);have Bt:=Hd (BG.out _ HB.out);clear hb;rw [HBI.out];go_simp;refine hK _ _ Bt.out ?_;clear hK K;simp only [Act.put,LA,LZ,LS];refine aK 12 rfl (by kernel_rfl) rfl (λ_ _ _ h=>h) Bt.out (by intro w' h;go_simp<;>with_reducible rfl) ?_;simp only [Act.put,LA,LZ,LS];refine cB rfl (by kernel_rfl) ?_;simp only [aw,ax];go_wp2_with fail;go_ret;exact ⟨rfl,HB.out⟩
def CntP (r:Int×List Nat) (w:World) (e:Ending) (w':World):Prop:=
 Below w.heap.size w w'∧if r.1=0 then ∃ oa oc,e= .returned (.tuple #[.slice oa r.2.length oc,.nilIface])∧OR eN w' oa oc r.2.length (cj (Wi.Ba.ints r.2))∧∀ k,blk oa=some k→w.heap.size≤k else ∃ er,e= .returned (.tuple #[.slice none 0 0,er])∧IsErr w' er
theorem qI (i:Nat) (h:LkAt w l g n img s ra rc P) (hi:i<Wi.Su.bankN P):Calls prog 83 #[.pointer (some ⟨l,0,none⟩),.int .i64 (i:Int)] w (CntP (Wi.Ba.bblock s.gen P i (img (fA s P+i))) w):=by
 obtain ⟨b1,b2,b3,b4,b5⟩:=k6 h;have Gi:=Hd h;have CH:=Hd (sU i h hi);have CU:=Hd λw' (hb:Below w.heap.size w w')=>n4 (fA s P+i) (h.below hb) (by omega) (by omega);have DJ:=Hd (h.dk.len (i:=fA s P+i) (by omega) (by omega));have BG:=Hd λw' (hb:Below w.heap.size w w')=>(show (λw':World=>w'.cell? ⟨l,1,none⟩=some (.int .i64 s.gen)∧w'.cell? ⟨l,7,none⟩=some (.int .i64 (P:Int))) w' from by obtain ⟨d0,d1,d2,d3,d4,d5⟩:=jF (h.below hb).row;exact ⟨d1,d3⟩);generalize fA s P+i=bi at*;generalize img bi=bs at*;have DW:=Hd λa c w' (hb:OB w' a c bs)=>Wi.Ba.blockB_any s.gen P i a c bs w' (by omega) hb.cap.1 (by rw [DJ.out];decide) hb.bts;rw [DJ.out] at DW;obtain ⟨⟨er,xs⟩,hr⟩:∃ r,Wi.Ba.bblock s.gen P i bs=r:=⟨_,rfl⟩;rw [hr] at DW⊢;generalize s.gen=gn at*;clear h b1 b2 b3 b4 b5 hi hr;by_cases he:er=0
 ·subst he;go_enter func83,ntmps83;go_wp2_with fail;refine CH.out.mono ?_;rintro _ w2 ⟨rfl,hb2⟩;have Bd:=Hd hb2;clear hb2;go_wp2_with fail;refine (CU.out _ Bd.out).mono ?_;rintro _ w3 ⟨a,c,rfl,hO,ha,hb3⟩;have Bi:=Hd (Bd.out.trans (hb3.mono Bd.out.size));have BP:=Hd (DW.out a c w3.drew (hO.below (aA w3.heap.size w3).drew));have Bf:=Hd (BG.out _ (Bi.out.trans ((aA w3.heap.size w3).drew.mono Bi.out.size)));clear hO ha hb3;go_wp2_with fail;refine cn (λw':World=>w'.cell? ⟨l,1,none⟩=some (.int .i64 gn)∧w'.cell? ⟨l,7,none⟩=some (.int .i64 (P:Int))) 17 (by kernel_rfl) (by kernel_rfl) ?_;change At _ _ _ _ _ _ 18 #[false,false,false,false,false,false,false,false,false,false,false,false,false,false,false,false,false,false] _ _;refine aK 0 rfl (by kernel_rfl) rfl (λ_ _ _ h=>h) Bf.out (by intro w' h;go_simp<;>with_reducible rfl) ?_;simp only [Act.put,LA,LZ,LS];refine aK 1 rfl (by kernel_rfl) rfl (λ_ _ _ h=>h) Bf.out (by intro w' h;go_simp<;>with_reducible rfl) ?_;simp only [Act.put,LA,LZ,LS];refine aK 2 rfl (by kernel_rfl) rfl (λ_ _ _ h=>h) Bf.out (by intro w' h;go_simp<;>with_reducible rfl) ?_;simp only [Act.put,LA,LZ,LS];refine aK 3 rfl (by kernel_rfl) rfl (λ_ _ _ h=>h) Bf.out (by intro w' h;go_simp<;>with_reducible rfl) ?_;simp only [Act.put,LA,LZ,LS];refine aK 4 rfl (by kernel_rfl) rfl (λ_ _ _ h=>h) Bf.out (by intro w' h;go_simp<;>with_reducible rfl) ?_;simp only [Act.put,LA,LZ,LS];refine aK 5 rfl (by kernel_rfl) rfl (λ_ _ _ h=>h) Bf.out (by intro w' h;go_simp<;>with_reducible rfl) ?_;simp only [Act.put,LA,LZ,LS];refine aK 6 rfl (by kernel_rfl) rfl (λ_ _ _ h=>h) Bf.out (by intro w' h;go_simp<;>with_reducible rfl) ?_;simp only [Act.put,LA,LZ,LS];refine aK 7 rfl (by kernel_rfl) rfl (λ_ _ _ h=>h) Bf.out (by intro w' h;go_simp<;>with_reducible rfl) ?_;simp only [Act.put,LA,LZ,LS];refine aK 8 rfl (by kernel_rfl) rfl (λ_ _ _ h=>h) Bf.out (by intro w' h;go_simp<;>with_reducible rfl) ?_;simp only [Act.put,LA,LZ,LS];refine aK 9 rfl (by kernel_rfl) rfl (λ_ _ _ h=>h) Bf.out (by intro w' h;go_simp<;>with_reducible rfl) ?_;simp only [Act.put,LA,LZ,LS];refine aK 10 rfl (by kernel_rfl) rfl (λ_ _ _ h=>h) Bf.out (by intro w' h;go_simp<;>with_reducible rfl) ?_;simp only [Act.put,LA,LZ,LS];refine aK 11 rfl (by kernel_rfl) rfl (λ_ _ _ h=>h) Bf.out (by intro w' h;go_simp<;>with_reducible rfl) ?_;simp only [Act.put,LA,LZ,LS];refine aO 12 rfl (by kernel_rfl) rfl ?_;intro K hK;go_simp;refine BP.out.mono ?_;rintro _ w4 ⟨oa,oc,rfl,hO,hoa,hb⟩;have Be:=Hd (Bi.out.trans (((aA w3.heap.size w3).drew.trans hb).mono Bi.out.size));have BH:=Hd hO;have BZ:=Hd hoa;have CE:=Hd (BG.out _ Be.out);clear hO hoa hb;go_simp;refine hK _ _ CE.out ?_;clear hK K;simp only [Act.put,LA,LZ,LS];refine aK 13 rfl (by kernel_rfl) rfl (λ_ _ _ h=>h) CE.out (by intro w' h;go_simp<;>with_reducible rfl) ?_;simp only [Act.put,LA,LZ,LS];refine aK 14 rfl (by kernel_rfl) rfl (λ_ _ _ h=>h) CE.out (by intro w' h;go_simp<;>with_reducible rfl) ?_;simp only [Act.put,LA,LZ,LS];refine aK 15 rfl (by kernel_rfl) rfl (λ_ _ _ h=>h) CE.out (by intro w' h;go_simp<;>with_reducible rfl) ?_;simp only [Act.put,LA,LZ,LS];refine aK 16 rfl (by kernel_rfl) rfl (λ_ _ _ h=>h) CE.out (by intro w' h;go_simp<;>with_reducible rfl) ?_;simp only [Act.put,LA,LZ,LS];refine cB rfl (by kernel_rfl) ?_;simp only [aw,ax];go_wp2_with fail;go_ret2;exact ⟨Be.out,oa,oc,rfl,by have h:=BH.out;unfold Wi.Ba.ON at h;rw [Wi.Ba.ints_length] at h;exact h,λk e=>ao Bi.out.size (BZ.out k e)⟩
 ·have heb:(er==0)=false:=by simp [he]
  go_enter func83,ntmps83;go_wp2_with fail;refine CH.out.mono ?_;rintro _ w2 ⟨rfl,hb2⟩;have Bd:=Hd hb2;clear hb2;go_wp2_with fail;refine (CU.out _ Bd.out).mono ?_;rintro _ w3 ⟨a,c,rfl,hO,ha,hb3⟩;have Bi:=Hd (Bd.out.trans (hb3.mono Bd.out.size));have BP:=Hd (DW.out a c w3.drew (hO.below (aA w3.heap.size w3).drew));have Bf:=Hd (BG.out _ (Bi.out.trans ((aA w3.heap.size w3).drew.mono Bi.out.size)));clear hO ha hb3;go_wp2_with fail;refine cn (λw':World=>w'.cell? ⟨l,1,none⟩=some (.int .i64 gn)∧w'.cell? ⟨l,7,none⟩=some (.int .i64 (P:Int))) 17 (by kernel_rfl) (by kernel_rfl) ?_;change At _ _ _ _ _ _ 18 #[false,false,false,false,false,false,false,false,false,false,false,false,false,false,false,false,false,false] _ _;refine aK 0 rfl (by kernel_rfl) rfl (λ_ _ _ h=>h) Bf.out (by intro w' h;go_simp<;>with_reducible rfl) ?_;simp only [Act.put,LA,LZ,LS];refine aK 1 rfl (by kernel_rfl) rfl (λ_ _ _ h=>h) Bf.out (by intro w' h;go_simp<;>with_reducible rfl) ?_;simp only [Act.put,LA,LZ,LS];refine aK 2 rfl (by kernel_rfl) rfl (λ_ _ _ h=>h) Bf.out (by intro w' h;go_simp<;>with_reducible rfl) ?_;simp only [Act.put,LA,LZ,LS];refine aK 3 rfl (by kernel_rfl) rfl (λ_ _ _ h=>h) Bf.out (by intro w' h;go_simp<;>with_reducible rfl) ?_;simp only [Act.put,LA,LZ,LS];refine aK 4 rfl (by kernel_rfl) rfl (λ_ _ _ h=>h) Bf.out (by intro w' h;go_simp<;>with_reducible rfl) ?_;simp only [Act.put,LA,LZ,LS];refine aK 5 rfl (by kernel_rfl) rfl (λ_ _ _ h=>h) Bf.out (by intro w' h;go_simp<;>with_reducible rfl) ?_;simp only [Act.put,LA,LZ,LS];refine aK 6 rfl (by kernel_rfl) rfl (λ_ _ _ h=>h) Bf.out (by intro w' h;go_simp<;>with_reducible rfl) ?_;simp only [Act.put,LA,LZ,LS];refine aK 7 rfl (by kernel_rfl) rfl (λ_ _ _ h=>h) Bf.out (by intro w' h;go_simp<;>with_reducible rfl) ?_;simp only [Act.put,LA,LZ,LS];refine aK 8 rfl (by kernel_rfl) rfl (λ_ _ _ h=>h) Bf.out (by intro w' h;go_simp<;>with_reducible rfl) ?_;simp only [Act.put,LA,LZ,LS];refine aK 9 rfl (by kernel_rfl) rfl (λ_ _ _ h=>h) Bf.out (by intro w' h;go_simp<;>with_reducible rfl) ?_;simp only [Act.put,LA,LZ,LS];refine aK 10 rfl (by kernel_rfl) rfl (λ_ _ _ h=>h) Bf.out (by intro w' h;go_simp<;>with_reducible rfl) ?_;simp only [Act.put,LA,LZ,LS];refine aK 11 rfl (by kernel_rfl) rfl (λ_ _ _ h=>h) Bf.out (by intro w' h;go_simp<;>with_reducible rfl) ?_;simp only [Act.put,LA,LZ,LS];refine aO 12 rfl (by kernel_rfl) rfl ?_;intro K hK;go_simp;refine BP.out.mono ?_;rintro _ w4 ⟨oa,oc,rfl,hO,hoa,hb⟩;have Be:=Hd (Bi.out.trans (((aA w3.heap.size w3).drew.trans hb).mono Bi.out.size));have BH:=Hd hO;have BZ:=Hd hoa;have CE:=Hd (BG.out _ Be.out);clear hO hoa hb;go_simp;refine hK _ _ CE.out ?_;clear hK K;simp only [Act.put,LA,LZ,LS];refine aK 13 rfl (by kernel_rfl) rfl (λ_ _ _ h=>h) CE.out (by intro w' h;go_simp<;>with_reducible rfl) ?_;simp only [Act.put,LA,LZ,LS];refine aK 14 rfl (by kernel_rfl) rfl (λ_ _ _ h=>h) CE.out (by intro w' h;go_simp<;>with_reducible rfl) ?_;simp only [Act.put,LA,LZ,LS];refine aK 15 rfl (by kernel_rfl) rfl (λ_ _ _ h=>h) CE.out (by intro w' h;go_simp<;>with_reducible rfl) ?_;simp only [Act.put,LA,LZ,LS];refine aK 16 rfl (by kernel_rfl) rfl (λ_ _ _ h=>h) CE.out (by intro w' h;go_simp<;>with_reducible rfl) ?_;simp only [Act.put,LA,LZ,LS];refine cB rfl (by kernel_rfl) ?_;simp only [aw,ax];go_wp2_with fail;go_ret2;refine ⟨Be.out.trans ((bY _ _).mono Be.out.size),?_⟩;rw [bg he];exact ⟨_,rfl,.inr ⟨w4.heap.size,bi,er,rfl,az _ _⟩⟩
end
end Go.Proofs.YtchbedbmjiabgaaGreatDoor
namespace Go.Proofs.YtchbedbmjiabgaaGreatDoor.Wi.Su
open Go.Proofs.Tryz
def OrdAt (next:Int) (rs:List RT) (i:Nat):Prop:=(if i=0 then 0 else (rs.getD (i-1) ⟨0,0,0,0⟩).id)+1≤(rs.getD i ⟨0,0,0,0⟩).id∧(rs.getD i ⟨0,0,0,0⟩).id≤next-1
instance (n:Int) (r:List RT) (i:Nat):Decidable (OrdAt n r i):=inferInstanceAs (Decidable (_∧_))
def CanT (P:Int) (r:RT):Prop:=(r.root=0∧r.height=0∧r.items=0)∨((1≤r.root∧r.root≤P)∧(1≤r.height∧r.height≤12)∧(1≤r.items∧r.items≤P*8))
instance (n:Int) (r:RT):Decidable (CanT n r):=inferInstanceAs (Decidable (_∨_))
def ng (s:SP):Prop:=(0≤s.gen∧s.gen≤1099511627776)∧(1≤s.next∧s.next≤2147483648)∧(s.roots.length:Int)≤s.cf.clones
instance (s:SP):Decidable (ng s):=inferInstanceAs (Decidable (_∧_))
def scheck (s:SP):Nat:=
 if ¬ MayC s.cf then 1 else if ¬ ng s then 4 else if ¬ (∀ i,i<s.roots.length→OrdAt s.next s.roots i) then 11
 else if ¬ (∀ i,i<s.roots.length→CanT s.cf.pages (s.roots.getD i ⟨0,0,0,0⟩)) then 5 else 0
structure Right (s:SP):Prop where
 may:MayC s.cf
 num:ng s
 ord:∀ i,i<s.roots.length→OrdAt s.next s.roots i
 can:∀ i,i<s.roots.length→CanT s.cf.pages (s.roots.getD i ⟨0,0,0,0⟩)
theorem oW (s:SP):scheck s≤11:=by unfold scheck;(repeat' split);all_goals omega
theorem scheck_ok {s:SP}:scheck s=0↔Right s:=by unfold scheck;constructor;intro h;by_cases h1:MayC s.cf;rw [bg (by simpa using h1)] at h;by_cases h2:ng s;rw [bg (by simpa using h2)] at h;by_cases h3:∀ i,i<s.roots.length→OrdAt s.next s.roots i;rw [bg (λg=>g h3)] at h;by_cases h4:∀ i,i<s.roots.length→CanT s.cf.pages (s.roots.getD i ⟨0,0,0,0⟩);exact ⟨h1,h2,h3,h4⟩;rw [bh h4] at h;omega;rw [bh h3] at h;omega;rw [bh h2] at h;omega;rw [bh h1] at h;omega;rintro ⟨h1,h2,h3,h4⟩;rw [bg (by simpa using h1),bg (by simpa using h2),bg (λg=>g h3),bg (λg=>g h4)]
theorem Right.len {s:SP} (h:Right s):s.roots.length≤16:=by have h1:=h.may.2.1.2;have h2:=h.num.2.2;omega
theorem Right.root {s:SP} (h:Right s) {i:Nat} {x:RT} (hi:s.roots[i]?=some x):(0≤x.id∧x.id≤2147483647)∧(0≤x.root∧x.root≤65536)∧(0≤x.height∧x.height≤12)∧(0≤x.items∧x.items≤524288):=by
 have hl:=(ar.1 hi).1;have hx:s.roots.getD i ⟨0,0,0,0⟩=x:=by rw [au,hi];rfl
 have hc:=h.can i hl
 have hid:∀ j,j<s.roots.length→1≤(s.roots.getD j ⟨0,0,0,0⟩).id:=by
  intro j;induction j with
  |zero=>intro hj;have:=(h.ord 0 hj).1;rw [bh rfl] at this;omega
  |succ j ih=>intro hj;have:=(h.ord (j+1) hj).1;rw [bg (by omega),Nat.add_sub_cancel] at this;have:=ih (by omega);omega
 have h1:=hid i hl;have h2:=(h.ord i hl).2;have h3:=h.num.2.1;have hp:(s.cf.pages:Int)≤65536:=by have:=pagesN_le s.cf.blocks.toNat;have:=h.may.1;unfold CF.pages;omega
 rw [hx] at hc h1 h2;unfold CanT at hc;omega
def jj (r:RT):List UInt8:=leb 4 r.id.toNat++(leb 4 r.root.toNat++(leb 1 r.height.toNat++leb 4 r.items.toNat))
theorem lu (r:RT):(jj r).length=13:=by simp [jj,cd]
def dT (rs:List RT):List UInt8:=rs.flatMap jj
theorem jY (rs:List RT):(dT rs).length=13*rs.length:=by
 induction rs with
 |nil=>rfl
 |cons r rs ih=>have e:dT (r::rs)=jj r++dT rs:=rfl;rw [e,aq,lu,ih,aG];omega
theorem sD {rs:List RT} {k:Nat} {r:RT} (h:rs[k]?=some r):dT (rs.take (k+1))=dT (rs.take k)++jj r:=by rw [bm,h];simp [dT]
def headB (s:SP):List UInt8:=leb 4 827346755++(leb 8 s.gen.toNat++(leb 4 s.cf.blocks.toNat++(leb 1 s.cf.clones.toNat++(leb 4 s.cf.refs.toNat++(leb 4 s.next.toNat++leb 1 s.roots.length)))))
theorem i7 (s:SP):(headB s).length=26:=by simp [headB,cd]
def bodyB (s:SP):List UInt8:=headB s++dT s.roots
theorem qO (s:SP):(bodyB s).length=26+13*s.roots.length:=by rw [bodyB,aq,i7,jY]
def fullB (b:List UInt8):List UInt8:=b++List.replicate (508-b.length) 0
def summed (b:List UInt8):List UInt8:=b++leb 4 (Crc.ofs b)
def laid (s:SP):List UInt8:=summed (fullB (bodyB s))
theorem cM {b:List UInt8} (h:b.length≤508):(fullB b).length=508:=by simp [fullB];omega
theorem eS (b:List UInt8):(summed b).length=b.length+4:=by simp [summed,cd]
theorem Right.body {s:SP} (h:Right s):(bodyB s).length≤508:=by have:=h.len;rw [qO];omega
theorem laid_length {s:SP} (h:Right s):(laid s).length=512:=by rw [laid,eS,cM h.body]
def fld (bs:List UInt8) (o k:Nat):Nat:=unle ((bs.drop o).take k)
theorem eO (k n:Nat) (h:n<256^k):unle (leb k n)=n:=by
 induction k generalizing n with
 |zero=>simp at h;subst h;rfl
 |succ k ih=>rw [leb,unle,ih _ (by rw [Nat.pow_succ] at h;exact Nat.div_lt_of_lt_mul (by rw [Nat.mul_comm];exact h)),UInt8.toNat_ofNat'];omega
theorem gD (x y:List UInt8) (o k:Nat):fld (x++y) (x.length+o) k=fld y o k:=by unfold fld;rw [List.drop_append,bN (by omega),a7];congr 3;omega
theorem fld_at (k n:Nat) (y:List UInt8) (h:n<256^k):fld (leb k n++y) 0 k=n:=by unfold fld;rw [ax,bG (by rw [cd];exact am _),av (by rw [cd];exact am _),eO k n h]
theorem cH (j m:Nat) (y:List UInt8) (o k:Nat) (h:j≤o):fld (leb j m++y) o k=fld y (o-j) k:=by have:=gD (leb j m) y (o-j) k;rw [cd,Nat.add_sub_cancel' h] at this;exact this
def g9 (bs:List UInt8) (o:Nat):RT:=⟨fld bs o 4,fld bs (o+4) 4,fld bs (o+8) 1,fld bs (o+9) 4⟩
def gx (bs:List UInt8):SP:=⟨IntKind.i64.wrap (fld bs 4 8:Nat),⟨fld bs 12 4,fld bs 16 1,fld bs 17 4⟩,fld bs 21 4,(List.range (fld bs 25 1)).map λi=>g9 bs (26+13*i)⟩
def zeroS:SP:=⟨0,⟨0,0,0⟩,0,[]⟩
def sdec (bs:List UInt8):Nat×SP:=
 if bs.length≠512 then (1,zeroS) else if unle (bs.drop 508)≠Crc.ofs (bs.take 508) then (6,zeroS)
 else if scheck (gx bs)=0∧laid (gx bs)=bs then (0,gx bs) else (5,zeroS)
theorem xq (r:RT) (y:List UInt8) (h:(0≤r.id∧r.id≤2147483647)∧(0≤r.root∧r.root≤65536)∧(0≤r.height∧r.height≤12)∧(0≤r.items∧r.items≤524288)):g9 (jj r++y) 0=r:=by obtain ⟨id,ro,he,it⟩:=r;simp only at h;unfold g9 jj;simp only [aQ,bP];rw [fld_at 4 _ _ (by omega),cH 4 _ _ 4 4 (by omega),fld_at 4 _ _ (by omega),cH 4 _ _ 8 1 (by omega),cH 4 _ _ 4 1 (by omega),fld_at 1 _ _ (by omega),cH 4 _ _ 9 4 (by omega),cH 4 _ _ 5 4 (by omega),cH 1 _ _ 1 4 (by omega),fld_at 4 _ _ (by omega)];congr 1<;>omega
theorem my (x y:List UInt8) (o:Nat):g9 (x++y) (x.length+o)=g9 y o:=by unfold g9;simp only [Nat.add_assoc,gD]
theorem ul (rs:List RT) (y:List UInt8) (h:∀ (i:Nat) (x:RT),rs[i]?=some x→(0≤x.id∧x.id≤2147483647)∧(0≤x.root∧x.root≤65536)∧(0≤x.height∧x.height≤12)∧(0≤x.items∧x.items≤524288)):
  ∀ (i:Nat) (x:RT),rs[i]?=some x→g9 (dT rs++y) (13*i)=x:=by
   induction rs with
   |nil=>intro i x hi;simp at hi
   |cons r rs ih=>
    intro i x hi;(have e:dT (r::rs)++y=jj r++(dT rs++y):=by simp [dT]);rw [e];cases i with
    |zero=>simp at hi;subst hi;exact xq r _ (h 0 r rfl)
    |succ i=>rw [show 13*(i+1)=(jj r).length+13*i by rw [lu];omega,my];exact ih (λi x hi=>h (i+1) x (by simpa using hi)) i x (by simpa using hi)
theorem cU (n:Nat) (h:n≤9223372036854775807):IntKind.i64.wrap (n:Int)=(n:Int):=by simp [IntKind.wrap,IntKind.signed,IntKind.bits];omega
theorem yo {s:SP} (h:Right s) (y:List UInt8):fld (headB s++y) 4 8=s.gen.toNat∧fld (headB s++y) 12 4=s.cf.blocks.toNat∧fld (headB s++y) 16 1=s.cf.clones.toNat∧fld (headB s++y) 17 4=s.cf.refs.toNat∧fld (headB s++y) 21 4=s.next.toNat∧fld (headB s++y) 25 1=s.roots.length:=by have hl:=h.len;obtain ⟨g1,g2,g3⟩:=h.num;obtain ⟨m1,m2,m3⟩:=h.may;unfold headB;simp only [aQ];refine ⟨?_,?_,?_,?_,?_,?_⟩;rw [cH 4 _ _ _ _ (by omega),fld_at 8 _ _ (by omega)];rw [cH 4 _ _ _ _ (by omega),cH 8 _ _ _ _ (by omega),fld_at 4 _ _ (by omega)];rw [cH 4 _ _ _ _ (by omega),cH 8 _ _ _ _ (by omega),cH 4 _ _ _ _ (by omega),fld_at 1 _ _ (by omega)];rw [cH 4 _ _ _ _ (by omega),cH 8 _ _ _ _ (by omega),cH 4 _ _ _ _ (by omega),cH 1 _ _ _ _ (by omega),fld_at 4 _ _ (by omega)];rw [cH 4 _ _ _ _ (by omega),cH 8 _ _ _ _ (by omega),cH 4 _ _ _ _ (by omega),cH 1 _ _ _ _ (by omega),cH 4 _ _ _ _ (by omega),fld_at 4 _ _ (by omega)];rw [cH 4 _ _ _ _ (by omega),cH 8 _ _ _ _ (by omega),cH 4 _ _ _ _ (by omega),cH 1 _ _ _ _ (by omega),cH 4 _ _ _ _ (by omega),cH 4 _ _ _ _ (by omega),fld_at 1 _ _ (by omega)]
theorem ud {s:SP} (h:Right s):gx (laid s)=s:=by
 have e:laid s=headB s++(dT s.roots++(List.replicate (508-(bodyB s).length) 0++leb 4 (Crc.ofs (fullB (bodyB s))))):=by simp [laid,summed,fullB,bodyB]
 rw [e];generalize List.replicate (508-(bodyB s).length) 0++leb 4 (Crc.ofs (fullB (bodyB s)))=z;obtain ⟨h1,h2,h3,h4,h5,h6⟩:=yo h (dT s.roots++z);unfold gx;rw [h1,h2,h3,h4,h5,h6];obtain ⟨g1,g2,g3⟩:=h.num;obtain ⟨m1,m2,m3⟩:=h.may;have hr:(List.range s.roots.length).map (λi=>g9 (headB s++(dT s.roots++z)) (26+13*i))=s.roots:=by apply List.ext_getElem?;intro i;by_cases hi:i<s.roots.length;have hx:=ap hi;have:=ul s.roots z (λi x hi=>h.root hi) i _ hx;rw [aY,List.getElem?_range hi,Option.map_some,show 26+13*i=(headB s).length+13*i by rw [i7],my,this,hx];rw [aP (by simpa using hi),aP (by omega)]
 rw [hr,cU _ (by omega)];obtain ⟨gen,⟨bl,cl,re⟩,nx,rs⟩:=s;simp only at g1 g2 g3 m1 m2 m3⊢;congr 1;omega;congr 1<;>omega;omega
theorem iV (b:List UInt8) (h:b.length=508):unle ((summed b).drop 508)=Crc.ofs ((summed b).take 508):=by rw [summed,List.drop_append_of_le_length (by omega),bG (by omega),List.drop_of_length_le (by omega),av (by omega),a7,eO _ _ (Crc.ofs_lt _)]
theorem sdec_laid {s:SP} (h:Right s):sdec (laid s)=(0,s):=by unfold sdec;rw [bg (by rw [laid_length h];simp),bg (by rw [laid,iV _ (cM h.body)];simp),ud h,bh ⟨scheck_ok.2 h,rfl⟩]
theorem sdec_one {bs:List UInt8} {s:SP} (h:sdec bs=(0,s)):Right s∧laid s=bs:=by
 unfold sdec at h;repeat' split at h
 cases h;cases h
 ·rename_i g;cases h;exact ⟨scheck_ok.1 g.1,g.2⟩
 cases h
theorem pW {a x:UInt8} (h:x≠0):a^^^x≠a:=by intro e;apply h;have:=congrArg (a^^^·) e;simpa [←UInt8.xor_assoc] using this
theorem iz {a b:List UInt8} (hl:a.length=b.length) (h:unle a=unle b):a=b:=by
 induction a generalizing b with
 |nil=>cases b with
  |nil=>rfl
  |cons y b=>simp at hl
 |cons x a ih=>cases b with
  |nil=>simp at hl
  |cons y b=>
   simp only [unle] at h
   have hx:=x.toNat_lt
   have hy:=y.toNat_lt
   have e1:x.toNat=y.toNat:=by omega
   have e2:unle a=unle b:=by omega
   rw [UInt8.toNat_inj.1 e1,ih (by simpa using hl) e2]
theorem wX {bs:List UInt8} (hl:bs.length=512) (hs:unle (bs.drop 508)=Crc.ofs (bs.take 508)) {o:Nat} (ho:o<512) {x:UInt8} (hx:x≠0):
  unle ((bs.set o (bs.getD o 0^^^x)).drop 508)≠Crc.ofs ((bs.set o (bs.getD o 0^^^x)).take 508):=by
   by_cases h:o<508
   ·rw [List.drop_set_of_lt h,hs,List.take_set];(have e:bs.getD o 0=(bs.take 508).getD o 0:=by rw [au,au,bI h]);rw [e];have hx0:x.toNat≠0:=λe=>hx (UInt8.toNat_inj.1 e);have hlt:=x.toNat_lt;have h1:=Crc.le_set (bs.take 508) o x (by rw [aC];omega);rw [show 256^o=2^(8*o) by rw [Nat.pow_mul]] at h1;exact Crc.tells (m:=x.toNat) (f:=8*o) (by omega) hx0 (by rw [List.length_set]) (by rw [aC];omega) h1
   rw [List.take_set_of_le (by omega),←hs,List.drop_set];intro e;rw [bg h] at e;have:=iz (by rw [List.length_set]) e;have h2:=congrArg (·[o-508]?) this;rw [List.getElem?_set_self (by rw [aL];omega),List.getElem?_drop,show 508+(o-508)=o by omega,ap (by omega),au,ap (by omega)] at h2;exact pW hx (a8 h2)
end Go.Proofs.YtchbedbmjiabgaaGreatDoor.Wi.Su
