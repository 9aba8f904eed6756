/- TopFormat, part 7 of the proof: RdOps RdRaw RdRaw2 RdZeros RdEnd SumA SumH SumOn SumC BkW BkE. No condition. -/
import Derived.Deep.CutRange
import Derived.Deep.WholeRow
import Derived.Test.YtchbedbmjiabgaaGreatDoorZ06
set_option linter.all false
set_option maxHeartbeats 16000000
set_option maxRecDepth 100000
namespace Go.Proofs.YtchbedbmjiabgaaGreatDoor.Wi
open Go.RowKit Go.Proofs.Tryz
def AftB (w:World) (p:Nat) (a:Option Addr) (bs:List UInt8) (s:RS) (x:Ending) (w':World):Prop:=
 ∃ oa cap2,x= .returned (.slice oa bs.length cap2)∧OB w' oa cap2 bs∧(∀ k,blk oa=some k→w.heap.size≤k)∧Aft w p a s w'
def RS.short (most:Int) (s:RS):List UInt8×RS:=if s.err≠0 then ([],s) else match s.rest with
 |[]=>([],{s with err:=2})
 |b::t=>if most<b.toNat then ([],{s with err:=4}) else if t.length<b.toNat then ([],{s with err:=2}) else (t.take b.toNat,{s with rest:=t.drop b.toNat})
def RS.zeros (s:RS):RS:=if s.err≠0 then s else if s.rest.any (· != 0) then {s with err:=5} else {s with rest:=[]}
def RS.ending (s:RS):Nat:=if s.err=0∧s.rest≠[] then 3 else s.err
theorem end_any (p:Nat) (a:Option Addr) (cap:Nat) (s:RS) (w:World) (h:IsR w p a cap s):
  Calls prog 147 #[.pointer (some ⟨p,0,none⟩)] w λx w'=>x= .returned (.int .i64 (s.ending:Int))∧w=w':=by
   obtain ⟨⟨T,h3⟩,_⟩:=h;obtain ⟨c0,c1,f⟩:=dh h3;clear h3 f;by_cases he:s.err=0
   ·by_cases hl:s.rest=[]
    ·(have e:s.ending=s.err:=by simp [RS.ending,hl]);rw [e];(have hl2:s.rest.length=0:=by simp [hl]);rw [hl2] at c0;rw [he] at c1⊢;go_enter func147,ntmps147;go_wp2_with fail;go_ret;exact ⟨rfl,rfl⟩
    ·(have e:s.ending=3:=by simp [RS.ending,hl,he]);rw [e];(have hl2:(0:Int)<s.rest.length:=by have:=List.length_pos_iff.2 hl;omega);rw [he] at c1;go_enter func147,ntmps147;go_wp2_with fail;go_ret;exact ⟨rfl,rfl⟩
   ·(have e:s.ending=s.err:=by simp [RS.ending,he]);rw [e];have hd:=iC he;go_enter func147,ntmps147;go_wp2_with fail;go_ret;exact ⟨rfl,rfl⟩
theorem Threw.same {w:World} {p e:Nat} {a:Option Addr} {cap:Nat} {s:RS} (h:IsR w p a cap s):Threw p e w (.panicked [de e false]) w:=⟨rfl,ae _ w,a,cap,s,h⟩
theorem AftB.read {w w1 w2 w':World} {p:Nat} {a:Option Addr} {bs:List UInt8} {s:RS} {v:Value} (hp:p<w.heap.size) (ha:∀ k,blk a=some k→k<w.heap.size) (hb:Below w.heap.size w w1) (hs:w.heap.size+3=w1.heap.size) (h:AftB w1 p a bs s (.returned v) w2) (hc:Chg (λk=>k=w.heap.size+1) w2 w'):AftB w p a bs s (.returned v) w':=by obtain ⟨oa,cap2,h1,h2,h3,h4⟩:=h;refine ⟨oa,cap2,h1,h2.chg hc (λk hk=>?_),λk hk=>?_,h4.read hp ha hb hs hc⟩;have:=h3 k hk;omega;have:=h3 k hk;omega
theorem AftB.pre {w0 w w':World} {p:Nat} {a:Option Addr} {bs:List UInt8} {s:RS} {x:Ending} (h:AftB w p a bs s x w') (hb:Chg (λk=>k=p) w0 w):AftB w0 p a bs s x w':=by obtain ⟨oa,cap2,h1,h2,h3,h4⟩:=h;exact ⟨oa,cap2,h1,h2,λk hk=>ao hb.size (h3 k hk),h4.pre hb⟩
theorem Threw.pre {w0 w w':World} {p e:Nat} {x:Ending} (h:Threw p e w x w') (hb:Chg (λk=>k=p) w0 w):Threw p e w0 x w':=⟨h.1,hb.trans h.2.1 (λ_ _ f=>f),h.2.2⟩
def Caps (w:World) (p g:Nat) (n:Int):Prop:=(∃ t,w.heap[g]?=some (.cells #[.pointer (some ⟨p,0,none⟩)] t))∧(∃ t,w.heap[g+1]?=some (.cells #[.int .i64 n] t))∧g≠p∧g+1≠p
theorem Caps.chg {w w':World} {p g:Nat} {n:Int} (h:Caps w p g n) (hc:Chg (λk=>k=p) w w'):Caps w' p g n:=by obtain ⟨⟨t,h1⟩,⟨t2,h2⟩,h3,h4⟩:=h;exact ⟨⟨t,(hc.block g (cA h1) h3).trans h1⟩,⟨t2,(hc.block (g+1) (cA h2) h4).trans h2⟩,h3,h4⟩
theorem Caps.cells {w:World} {p g:Nat} {n:Int} (h:Caps w p g n):w.cell? ⟨g,0,none⟩=some (.pointer (some ⟨p,0,none⟩))∧w.cell? ⟨g+1,0,none⟩=some (.int .i64 n):=by obtain ⟨⟨t,h1⟩,⟨t2,h2⟩,_⟩:=h;exact ⟨(dq h1).1,(dq h2).1⟩
theorem Caps.below {w w':World} {p g:Nat} {n:Int} (h:Caps w p g n) (hc:Below w.heap.size w w'):Caps w' p g n:=h.chg (ac hc)
def NewR (w:World) (bs:List UInt8) (x:Ending) (w':World):Prop:=∃ p a' cap',x= .returned (.pointer (some ⟨p,0,none⟩))∧IsR w' p a' cap' ⟨bs,0⟩∧w.heap.size≤p∧(∀ k,blk a'=some k→w.heap.size≤k)∧Below w.heap.size w w'
theorem fP (a:Option Addr) (c:Nat) (bs:List UInt8) (w:World) (hx:Bts w a bs) (hc:a=none→c=0) (hl:bs.length≤140737488355328):
  Calls prog 81 #[.slice a bs.length c] w (NewR w bs):=by obtain ⟨n,hn⟩:∃ n,bs.length=n:=⟨_,rfl⟩;rw [hn];have Hn:=Hd hn;(have hl2:n≤140737488355328:=by omega);have Hl:=Hd hl;clear hn hl;go_enter func81,ntmps81;go_wp2_with (at_builtin;go_must (refine cJ rfl (.const (.slice none 0 0)) (.tmp 3) rfl (n:=0) (bs:=[]) rfl rfl (ah _) Hn.out.symm rfl hx hc (by omega) ?_);intro oa2 cap2 w2 hO2 hC2 hb2 _);(have hO3:OB w2 oa2 cap2 bs:=by simpa using hO2);have hB:Below w.heap.size w w2:=hC2.below (am _) (λk e=>by cases e);have hB2:=(aA w2.heap.size w2).alloc (am _) (.cells #[.slice oa2 n cap2,.int .i64 0] 230);have hO4:=hO3.below hB2;have hlt:=hO3.lt;have hz:=hB.size;go_ret;refine ⟨w2.heap.size,oa2,cap2,rfl,⟨⟨230,by rw [az,Hn.out];rfl⟩,hO4.bts,λe=>(hO4.none_cap e).1,λe=>absurd (hlt _ e) (by omega),hO4.cap.1,Hl.out,aV _,hO4.lt⟩,hz,λk hk=>?_,hB.alloc hz _⟩;rcases hb2 with e|e<;>rw [e] at hk<;>cases hk;exact am _
def ZCut (w:World) (p:Nat) (a:Option Addr) (s:RS) (v l i:Value) (wx:World):Prop:=
 ∃ oa cap2 a' cap',v= .slice oa s.rest.length cap2∧l= .int .i64 (s.rest.length:Int)∧i= .int .i64 0∧OB wx oa cap2 s.rest∧IsR wx p a' cap' {s with rest:=[]}∧blk a'=blk a∧Chg (λk=>k=p) w wx
def q9 (w:World) (p:Nat) (a:Option Addr) (s:RS) (x:Ending) (w':World):Prop:=
 if s.rest.any (· != 0) then Threw p 5 w x w' else x= .returned (.int .i64 0)∧Aft w p a {s with rest:=[]} w'
def RelZ (l:List UInt8) (i:Value):Prop:=∃ j:Nat,j≤l.length∧i= .int .i64 j∧(l.take j).any (· != 0)=false
theorem xv {l:List UInt8} {j:Nat} (h:(l.take j).any (· != 0)=false) (hj:j<l.length) (hb:l.getD j 0=0):(l.take (j+1)).any (· != 0)=false:=by rw [bm,List.any_append,h,ap hj];simp only [au,ap hj,bA] at hb;simp [hb]
theorem z9 {l:List UInt8} {j:Nat} (hj:j<l.length) (hb:¬ l.getD j 0=0):l.any (· != 0)=true:=by simp only [au,ap hj,bA] at hb;rw [List.any_eq_true];exact ⟨l[j],List.getElem_mem hj,by simpa using hb⟩
theorem z8 {l:List UInt8} {j:Nat} (h:(l.take j).any (· != 0)=false) (hj:l.length≤j):l.any (· != 0)=false:=by rwa [av hj] at h
theorem zq (p g:Nat) (a:Option Addr) (cap:Nat) (s:RS) (w:World) (h:IsR w p a cap s) (hg:w.cell? ⟨g,0,none⟩=some (.pointer (some ⟨p,0,none⟩))):
  Calls prog 181 #[.pointer (some ⟨g,0,none⟩)] w (q9 w p a s):=by
   have H:=Hd (kJ p a cap s s.rest.length (am _) w.drew h.drew);have HD:=Hd (show s.rest.drop s.rest.length=[] by simp);have HTk:=Hd (show s.rest.take s.rest.length=s.rest by simp);obtain ⟨⟨T,h3⟩,_,_,_,_,hlr,_⟩:=h;obtain ⟨c0,c1,f⟩:=dh h3;clear h3 f;go_enter func181,ntmps181;go_wp2_with fail;go_cut [10,11,12] from 4 to 12 (λv l i wx=>ZCut w p a s v l i wx);case first=>go_region_with (go_at_call 106;refine H.out.mono ?_;rintro _ w2 ⟨oa,cap2,a',cap',rfl,hO,hoa,hR,hbk,hC⟩);all_goals go_wp2_with fail;go_meet;rw [HTk.out] at hO;rw [HD.out] at hR;exact ⟨oa,cap2,a',cap',rfl,rfl,rfl,hO,hR,hbk,(ae _ w).drew.trans hC (λ_ _ h=>h)⟩
   case rest=>
    obtain ⟨oa,cap2,a',cap',rfl,rfl,rfl,hO,hR,hbk,hC⟩:=hcut;clear H HD HTk c0 c1 hg;have HA:=Hd (show Aft w p a {s with rest:=[]} wc from ⟨a',cap',hR,hbk,hC⟩);have HX:=Hd (show Threw p 5 w (.panicked [de 5 false]) wc from ⟨rfl,hC,_,_,_,hR⟩);clear hR hbk hC;obtain ⟨l,el⟩:∃ l,s.rest=l:=⟨_,rfl⟩;(have hlm:l.length≤140737488355328:=by rw [←el];exact hlr);rw [el] at hO⊢;go_wp2_with fail;go_loop [12] (RelZ l) (λi=>l.length-(intOf i).toNat);case atStart=>exact ⟨0,aV _,rfl,rfl⟩
    case round=>
     obtain ⟨j,hj,rfl,hz⟩:=hrel;have HZ:=Hd hz;clear hz;by_cases hlt:j<l.length
     ·obtain ⟨gl,rfl⟩:=hO.pos (by omega);obtain ⟨hc, -⟩:=hO.cell (i:=j) hlt;have HL:=Hd hlt;by_cases hb:l.getD j 0=0
      ·rw [hb] at hc;have HS:=Hd (xv HZ.out hlt hb);clear hb;go_wp2_with fail;refine (jJ 5 wc).mono ?_;rintro _ _ ⟨rfl,rfl⟩;go_wp2_with fail;go_round;(case rel=>exact ⟨j+1,by omega,by go_num,HS.out⟩);case measure=>simp [intOf];omega
      ·have HS:=Hd (show l.any (· != 0)=true from z9 hlt hb);have hd:(((l.getD j 0).toNat:Int)==0)=false:=br.2 (λe=>hb (UInt8.toNat_inj.1 (by show (l.getD j 0).toNat=0;omega)));generalize (l.getD j 0).toNat=x at hc hd;clear hb;go_wp2_with fail;refine (nX 5 wc).mono ?_;rintro _ _ ⟨rfl,rfl⟩;refine ⟨rfl,?_⟩;unfold q9;rw [el,HS.out];exact HX.out
     ·have HS:=Hd (show l.any (· != 0)=false from z8 HZ.out (by omega));go_wp2_with fail;go_ret;unfold q9;rw [el,HS.out];exact ⟨rfl,HA.out⟩
theorem rzerosr (p g:Nat) (a:Option Addr) (cap:Nat) (s:RS) (w:World) (h:IsR w p a cap s) (hg:w.heap[g]?=some (.cells #[.pointer (some ⟨p,0,none⟩)] 183)):
  Calls prog 180 #[.pointer (some ⟨p,0,none⟩),.func (.func 181) #[] #[.pointer (some ⟨g,0,none⟩)]] w λx w'=>x= .returned (.int .i64 0)∧Aft w p a s.zeros w':=by
   (have hcf:∀ w0:World,(callFunc 181 #[.pointer (some ⟨g,0,none⟩)]).run prog w0= .ok (.enter 181 #[.pointer (some ⟨g,0,none⟩)]) w0:=λ_=>by kernel_rfl);have hgl:=cA hg;have hgc:∀ w1,Below w.heap.size w w1→w1.cell? ⟨g,0,none⟩=some (.pointer (some ⟨p,0,none⟩)):=λw1 hb=>(dq ((hb.block g hgl).trans hg)).1;by_cases he:s.err=0
   ·cases hz:s.rest.any (· != 0) with
    |true=>
     (have e:s.zeros={s with err:=5}:=by simp only [RS.zeros,he,hz];simp);rw [e]
     exact (oL p a cap s _ _ 5 w h he (by decide) hcf λw1 hb=>(zq p g a cap s w1 (h.below hb) (hgc w1 hb)).mono λx w2 hZ=>by
      unfold q9 at hZ;rw [hz] at hZ;exact hZ).mono λx w' hG=>Aft.gave hG
    |false=>(have e:s.zeros={s with rest:=[]}:=by simp only [RS.zeros,he,hz];simp);rw [e];refine (oM p a cap s _ _ (λv w1 w2=>v= .int .i64 0∧Aft w1 p a {s with rest:=[]} w2) w h he hcf λw1 hb _=>(zq p g a cap s w1 (h.below hb) (hgc w1 hb)).mono ?_).mono ?_;intro x w2 hZ;unfold q9 at hZ;rw [hz] at hZ;obtain ⟨rfl,hA⟩:=hZ;have hA2:=hA;obtain ⟨a',cap',_,_,h3⟩:=hA2;exact ⟨_,rfl,⟨rfl,hA⟩,h3,_,rfl⟩;rintro x w' ⟨v,w1,w2,rfl,hb,hs,⟨rfl,hA⟩,hc⟩;exact ⟨rfl,Aft.read h.lt (h.2.2.2.2.2.2.2) hb hs hA hc⟩
   ·(have e:s.zeros=s:=by simp [RS.zeros,he]);rw [e];exact (oK p a cap s _ w h he).mono λx w' hx=>⟨hx.1,h.after hx.2⟩
theorem uh (p:Nat) (a:Option Addr) (cap:Nat) (s:RS) (w:World) (h:IsR w p a cap s):
  Calls prog 146 #[.pointer (some ⟨p,0,none⟩)] w λx w'=>x= .returned (.tuple #[])∧Aft w p a s.zeros w':=by have hmf:∀ (fn:Fn) (first cap:Array Value) (w:World),(Instr.makeFunc fn first cap).run prog w= .ok (.func fn first cap) w:=λ_ _ _ _=>rfl;have hB:=(aA w.heap.size w).alloc (am _) (.cells #[.pointer (some ⟨p,0,none⟩)] 183);have hg:=az w (.cells #[.pointer (some ⟨p,0,none⟩)] 183);have h2:=h.below hB;have HB:=Hd hB;have H:=Hd (rzerosr p w.heap.size a cap s _ h2 hg);clear hB h h2 hg;go_enter func146,ntmps146;go_wp2_with fail;refine H.out.mono ?_;rintro _ w3 ⟨rfl,h3⟩;go_wp2_with fail;go_end0;exact ⟨rfl,h3.pre (ac HB.out)⟩
end Go.Proofs.YtchbedbmjiabgaaGreatDoor.Wi
namespace Go.Proofs.YtchbedbmjiabgaaGreatDoor
open Go.RowKit Go.Proofs.Tryz
def tab:List Nat:=[0x00000000,0x105EC76F,0x20BD8EDE,0x30E349B1,0x417B1DBC,0x5125DAD3,0x61C69362,0x7198540D,
 0x82F63B78,0x92A8FC17,0xA24BB5A6,0xB21572C9,0xC38D26C4,0xD3D3E1AB,0xE330A81A,0xF36E6F75]
def jh (l:List Nat):Array Value:=(l.map λn:Nat=>Value.int .u32 (n:Int)).toArray
theorem xk (l:List Nat):(jh l).all (·.oneCell')=true:=by rw [Array.all_eq_true_iff_forall_mem];intro v hv;simp [jh] at hv;obtain ⟨n,_,rfl⟩:=hv;rfl
theorem xm (l:List Nat) (k:Nat):(jh l)[k]?=(l[k]?).map λn:Nat=>Value.int .u32 (n:Int):=by simp [jh]
theorem ou {w:World} {g:Nat} {l:List Nat} {t:TypeId} {fr:Nat×Nat} (h:w.heap[g]?=some (.cells (jh l) t fr)) {k n:Nat} (hk:l[k]?=some n):w.cell? ⟨g,k,none⟩=some (.int .u32 (n:Int)):=by rw [bd w g k _ t fr h,xm,hk];rfl
theorem row48:(prog.info? 274).map (·.size)=some 16:=by kernel_rfl
theorem uZ (w:World):Calls prog 137 #[] w λe w'=>e= .returned (.agg (jh tab))∧Below w.heap.size w w':=by go_enter func137,ntmps137;go_wp2;go_returns;exact ⟨rfl,(aA _ _).alloc (am _) _⟩
theorem zR:∀ k,k<16→tab[k]?=some (Crc.stps 4 k):=by decide
theorem pJ (C:Nat) (hC:C<4294967296):∃ d T D:Nat,d<16∧D<4294967296∧tab[d]?=some T∧bits .and .u32 (C:Int) 15=(d:Int)∧bits .xor .u32 ((C:Int)/16) (T:Int)=(D:Int)∧D=Crc.stps 4 C:=by have hd:C%16<16:=Nat.mod_lt _ (by omega);have hT:=Crc.stps_lt 4 (w:=C%16) (by omega);refine ⟨C%16,Crc.stps 4 (C%16),Crc.stps 4 C,hd,Crc.stps_lt 4 hC,zR _ hd,?_,?_,rfl⟩;rw [show (15:Int)=((15:Nat):Int) from rfl,u32_and_nat C 15 hC (by omega),nat_mask4];rw [show (C:Int)/16=((C/16:Nat):Int) from by omega,u32_xor_nat _ _ (by omega) hT,←Crc.stps4]
theorem on_any (x:Nat) (hx:x<4294967296) (bs:List UInt8) (a:Option Addr) (cap:Nat) (hb:bs.length≤9223372036854775807) (w:World) (hc:Bts w a bs):Calls prog 103 #[.int .u32 x,.slice a bs.length cap] w λe w'=>e= .returned (.int .u32 (Crc.on x bs))∧Below w.heap.size w w':=by
 have h48:=row48;go_enter func103,ntmps103;go_wp2_with (first|(go_at_call 137;refine (uZ _).mono ?_;rintro e w1 ⟨rfl,hb1⟩)|(refine wpList_store_row rfl 274 (.tmp 5) (.tmp 8) rfl w1.heap.size (jh tab) rfl rfl 274 _ (az _ _) row48 rfl (xk _) ?_;rw [World.setRow_alloc_new]));have hb2:Below w.heap.size w (w1.alloc (.cells (jh tab) 274)):=hb1.alloc hb1.size _;have hg:(w1.alloc (.cells (jh tab) 274)).heap[w1.heap.size]?=some (.cells (jh tab) 274):=az _ _;generalize w1.alloc (.cells (jh tab) 274)=w2 at hb2 hg⊢;have hc2:=hc.below hb2;clear h48;go_loop [0,11] (λv i=>∃ k:Nat,k≤bs.length∧i= .int .i64 k∧v= .int .u32 (Crc.on x (bs.take k):Nat)) (λ_ i=>bs.length-(intOf i).toNat);case atStart=>exact ⟨0,aV _,rfl,by simp [Crc.on]⟩
 case round=>
  obtain ⟨k,hk,rfl,rfl⟩:=hrel;by_cases hlt:k<bs.length
  ·(obtain ⟨b,off,rfl,hbw,hcell⟩:∃ b off,a=some ⟨b,off,none⟩∧b<w2.heap.size∧∀ i,i<bs.length→w2.cell? ⟨b,off+i,none⟩=some (.int .u8 ((bs.getD i 0).toNat:Int)):=by rcases hc2 with rfl|h;simp at hlt;exact h);have hz:=hcell k hlt;clear hcell;have hA:=Crc.on_lt hx (bs.take k);(have htk:bs.take (k+1)=bs.take k++[bs.getD k 0]:=by rw [List.take_succ_eq_append_getElem hlt,au,ap hlt];rfl);(have hfin:Crc.on x (bs.take (k+1))=Crc.eig (Crc.on x (bs.take k)^^^(bs.getD k 0).toNat):=by rw [htk,Crc.on_snoc]);generalize Crc.on x (bs.take k)=A at hA hfin⊢;generalize bs.getD k 0=z at hz hfin⊢;have hzl:=z.toNat_lt;have e1:=u32_xor_nat A z.toNat hA (by omega);have hC:A^^^z.toNat<4294967296:=Nat.xor_lt_two_pow (n:=32) hA (by omega);generalize A^^^z.toNat=C at e1 hC hfin;obtain ⟨d,T,D,hd,hD,ht,e2,e3,rD⟩:=pJ C hC;obtain ⟨d2,T2,E,hd2,hE,ht2,e4,e5,rE⟩:=pJ D hD;have c1:=ou hg ht;have c2:=ou hg ht2;(have HE:Hid (Crc.on x (bs.take (k+1))=E):=by rw [hfin,rE,rD,←Crc.stps8];exact Crc.eig_eq C);clear htk hfin ht ht2 rD rE hg hc hc2;go_wp2;go_round;(case rel=>exact ⟨k+1,by omega,by go_num,by rw [HE.out]⟩);case measure=>simp [intOf];omega
  ·have e:bs.take k=bs:=av (by omega);rw [e];go_wp2;go_ret;exact ⟨rfl,hb2⟩
theorem bits_no (n:Nat) (h:n<4294967296):bits .xor .u32 IntKind.u32.max (n:Int)=(Crc.no n:Int):=by rw [show IntKind.u32.max=((4294967295:Nat):Int) from rfl,u32_xor_nat _ _ (by omega) h,Crc.no_eq]
theorem iF (bs:List UInt8) (a:Option Addr) (cap:Nat) (hb:bs.length≤9223372036854775807) (w:World) (hc:Bts w a bs):Calls prog 76 #[.slice a bs.length cap] w λe w'=>e= .returned (.int .u32 (Crc.ofs bs))∧Below w.heap.size w w':=by have hl:=Crc.on_lt (w:=4294967295) (by omega) bs;have e1:=bits_no _ hl;have hx:Crc.no (Crc.on 4294967295 bs)=Crc.ofs bs:=rfl;rw [hx] at e1;have hon:=on_any 4294967295 (by omega) bs a cap hb w hc;have Hon:=Hd hon;clear hon;generalize Crc.ofs bs=r at e1⊢;clear hx;go_enter func76,ntmps76;go_wp2_with (go_at_call 103;refine (Hon.out).mono ?_;rintro e w1 ⟨rfl,hb1⟩);go_ret;exact ⟨rfl,hb1⟩
end Go.Proofs.YtchbedbmjiabgaaGreatDoor
namespace Go.Proofs.YtchbedbmjiabgaaGreatDoor.Wi.Ba
open Go.RowKit Go.Proofs.Tryz
theorem bY (w:World) (o1:Obj):Below w.heap.size w (w.alloc o1):=(aA _ _).alloc (am _) _
theorem fR (w:World) (a:Addr) (v:Value):(w.setCell a v).heap.size=w.heap.size:=by simp [World.setCell]
theorem kL {n j:Nat} (h:j<n):n-(intOf (.int .i64 ((j:Int)+1))).toNat<n-(intOf (.int .i64 (j:Int))).toNat:=by simp only [intOf];omega
theorem eP {w:World} {g:Nat} {cs:Array Value} {T:TypeId} (h:w.heap[g]?=some (.cells cs T)) (k:Nat) (u:Value):(w.setCell ⟨g,k,none⟩ u).heap[g]?=some (.cells (cs.set! k u) T):=by rw [setCell_eq_setRow w g k _ T (0,0) u h,setRow_heap w g _ _ T (0,0) h];rfl
def WAt (K:Nat→Prop) (p:Nat) (bs:List UInt8) (w:World):Prop:=∃ oa cap,IsW w p oa cap ⟨512,bs,0⟩∧¬ K p∧∀ k,blk oa=some k→¬ K k
def Puts (K:Nat→Prop) (p:Nat) (bs:List UInt8) (w:World) (r:Ending) (w':World):Prop:=r= .returned (.tuple #[])∧WAt K p bs w'∧Chg (λk=>¬ K k) w w'
theorem WAt.wrote {K:Nat→Prop} {p:Nat} {bs':List UInt8} {w w':World} {oa:Option Addr} (hB:∀ k,K k→k<w.heap.size) (hp:¬ K p) (ha:∀ k,blk oa=some k→¬ K k) (h:Wrote w p oa ⟨512,bs',0⟩ w'):WAt K p bs' w'∧Chg (λk=>¬ K k) w w':=by obtain ⟨oa',cap',h1,h2,h3⟩:=h;refine ⟨⟨oa',cap',h1,hp,λk hk=>?_⟩,h2.mono λk _ hk=>hk.elim (λe=>e▸hp) (ha k)⟩;rcases h3 with h3|⟨j,h3,h4⟩;exact ha k (h3▸hk);rw [h3] at hk;cases hk;intro e;have:=hB _ e;omega
theorem WAt.below {K:Nat→Prop} {p:Nat} {bs:List UInt8} {w w':World} (h:WAt K p bs w) (hb:Below w.heap.size w w'):WAt K p bs w':=by obtain ⟨oa,cap,h1,h2⟩:=h;exact ⟨oa,cap,h1.below hb,h2⟩
theorem WAt.more {K:Nat→Prop} {p:Nat} {bs:List UInt8} {w:World} (h:WAt K p bs w) (o:Obj):WAt (λk=>K k∨k=w.heap.size) p bs (w.alloc o):=by have h':=h.below (bY w o);obtain ⟨oa,cap,h1,h2,h3⟩:=h;have hp:=h1.lt;have hb:=h1.2.1.lt;exact ⟨oa,cap,h1.below (bY w o),λe=>e.elim h2 (λe=>by omega),λk hk e=>e.elim (h3 k hk) (λe=>by have:=hb k hk;omega)⟩
theorem WAt.less {K L:Nat→Prop} {p:Nat} {bs:List UInt8} {w:World} (h:WAt K p bs w) (hL:∀ k,L k→K k):WAt L p bs w:=by obtain ⟨oa,cap,h1,h2,h3⟩:=h;exact ⟨oa,cap,h1,λe=>h2 (hL _ e),λk hk e=>h3 k hk (hL _ e)⟩
theorem ii {bs xs:List UInt8} (h:bs.length+xs.length≤512):(⟨512,bs,0⟩:WS).add xs=⟨512,bs++xs,0⟩:=by simp only [WS.add];rw [bg (by simp),bg (by omega)]
theorem qR (K:Nat→Prop) (p:Nat) (bs:List UInt8) (n:Nat) (hn:n<256) (w:World) (hB:∀ k,K k→k<w.heap.size) (h:WAt K p bs w) (hr:bs.length+1≤512):
  Calls prog 73 #[.pointer (some ⟨p,0,none⟩),.int .u8 (n:Int)] w (Puts K p (bs++leb 1 n) w):=by obtain ⟨oa,cap,h1,h2,h3⟩:=h;refine (pg p oa cap _ n (by omega) w h1).mono ?_;rintro _ w' ⟨rfl,h4⟩;rw [ii (by rw [cd];exact hr)] at h4;exact ⟨rfl,WAt.wrote hB h2 h3 h4⟩
theorem putW16 (K:Nat→Prop) (p:Nat) (bs:List UInt8) (n:Nat) (hn:n<65536) (w:World) (hB:∀ k,K k→k<w.heap.size) (h:WAt K p bs w) (hr:bs.length+2≤512):
  Calls prog 96 #[.pointer (some ⟨p,0,none⟩),.int .u16 (n:Int)] w (Puts K p (bs++leb 2 n) w):=by obtain ⟨oa,cap,h1,h2,h3⟩:=h;refine (ux p oa cap _ n (by omega) w h1).mono ?_;rintro _ w' ⟨rfl,h4⟩;rw [ii (by rw [cd];exact hr)] at h4;exact ⟨rfl,WAt.wrote hB h2 h3 h4⟩
theorem fW (K:Nat→Prop) (p:Nat) (bs:List UInt8) (n:Nat) (hn:n<4294967296) (w:World) (hB:∀ k,K k→k<w.heap.size) (h:WAt K p bs w) (hr:bs.length+4≤512):
  Calls prog 71 #[.pointer (some ⟨p,0,none⟩),.int .u32 (n:Int)] w (Puts K p (bs++leb 4 n) w):=by obtain ⟨oa,cap,h1,h2,h3⟩:=h;refine (nU p oa cap _ n (by omega) w h1).mono ?_;rintro _ w' ⟨rfl,h4⟩;rw [ii (by rw [cd];exact hr)] at h4;exact ⟨rfl,WAt.wrote hB h2 h3 h4⟩
theorem tK (K:Nat→Prop) (p:Nat) (bs:List UInt8) (n:Nat) (hn:n<18446744073709551616) (w:World) (hB:∀ k,K k→k<w.heap.size) (h:WAt K p bs w) (hr:bs.length+8≤512):
  Calls prog 72 #[.pointer (some ⟨p,0,none⟩),.int .u64 (n:Int)] w (Puts K p (bs++leb 8 n) w):=by obtain ⟨oa,cap,h1,h2,h3⟩:=h;refine (nT p oa cap _ n (by omega) w h1).mono ?_;rintro _ w' ⟨rfl,h4⟩;rw [ii (by rw [cd];exact hr)] at h4;exact ⟨rfl,WAt.wrote hB h2 h3 h4⟩
theorem yT (K:Nat→Prop) (p:Nat) (bs:List UInt8) (w:World) (hB:∀ k,K k→k<w.heap.size) (h:WAt K p bs w) (hr:bs.length≤508):
  Calls prog 74 #[.pointer (some ⟨p,0,none⟩),.int .i64 508] w (Puts K p (fullB bs) w):=by obtain ⟨oa,cap,h1,h2,h3⟩:=h;refine (rV p oa cap _ 508 (by omega) w h1).mono ?_;rintro _ w' ⟨rfl,h4⟩;(have e:(⟨512,bs,0⟩:WS).fill 508=⟨512,fullB bs,0⟩:=by simp only [WS.fill];rw [bg (by omega),bg (by omega),ii (by simp;omega)];rfl);rw [e] at h4;exact ⟨rfl,WAt.wrote hB h2 h3 h4⟩
def rp (K:Nat→Prop) (p:Nat) (bs:List UInt8) (w:World) (r:Ending) (w':World):Prop:=
 ∃ oa cap,r= .returned (.tuple #[.slice oa bs.length cap,.int .i64 0])∧OB w' oa cap bs∧(∀ k,blk oa=some k→w.heap.size≤k)∧WAt K p bs w'∧Below w.heap.size w w'
theorem qY (K:Nat→Prop) (p:Nat) (bs:List UInt8) (w:World) (h:WAt K p bs w):
  Calls prog 75 #[.pointer (some ⟨p,0,none⟩)] w (rp K p bs w):=by have hw:=h;obtain ⟨oa,cap,h1,h2,h3⟩:=h;refine (wz p oa cap _ rfl w h1).mono ?_;rintro _ w' ⟨oa',cap',rfl,h4,h5,h6⟩;refine ⟨oa',cap',rfl,h4,λk hk=>?_,hw.below h6,h6⟩;rcases h5 with h5|h5;rw [h5] at hk;cases hk;rw [h5] at hk;cases hk;exact am _
theorem gA {B:Nat} {w w':World} (h:Chg (λk=>¬ k<B) w w') (hB:B≤w.heap.size):Below B w w':=h.below hB λk hk=>by omega
def RAt (lo hi p:Nat) (s:RS) (w:World):Prop:=∃ a cap,IsR w p a cap s∧(lo≤p∧p<hi)∧∀ k,blk a=some k→lo≤k∧k<hi
def Gets (lo hi p:Nat) (k:IntKind) (v:Nat) (s:RS) (w:World) (x:Ending) (w':World):Prop:=x= .returned (.int k (v:Int))∧RAt lo hi p s w'∧Chg (λj=>lo≤j∧j<hi) w w'
theorem RAt.chg {lo hi p:Nat} {s:RS} {w w':World} {F:Nat→Prop} (h:RAt lo hi p s w) (hc:Chg F w w') (hF:∀ k,F k→¬ (lo≤k∧k<hi)):RAt lo hi p s w':=by obtain ⟨a,cap,h1,h2,h3⟩:=h;exact ⟨a,cap,h1.chg hc (λf=>hF _ f h2) (λk hk f=>hF _ f (h3 k hk)),h2,h3⟩
theorem RAt.aft {lo hi p:Nat} {s:RS} {w w':World} {a:Option Addr} (h2:lo≤p∧p<hi) (h3:∀ k,blk a=some k→lo≤k∧k<hi) (h:Aft w p a s w'):RAt lo hi p s w'∧Chg (λj=>lo≤j∧j<hi) w w':=by obtain ⟨a',cap',g1,g2,g3⟩:=h;exact ⟨⟨a',cap',g1,h2,λk hk=>h3 k (g2▸hk)⟩,g3.mono λk _ e=>e▸h2⟩
theorem qX (lo hi p:Nat) (s:RS) (w:World) (h:RAt lo hi p s w):
  Calls prog 108 #[.pointer (some ⟨p,0,none⟩)] w (Gets lo hi p .u8 (s.get 1).1 (s.get 1).2 w):=by obtain ⟨a,cap,h1,h2,h3⟩:=h;refine (pK p a cap s w h1).mono ?_;rintro _ w' ⟨rfl,h4⟩;exact ⟨rfl,RAt.aft h2 h3 h4⟩
theorem getR16 (lo hi p:Nat) (s:RS) (w:World) (h:RAt lo hi p s w):
  Calls prog 145 #[.pointer (some ⟨p,0,none⟩)] w (Gets lo hi p .u16 (s.get 2).1 (s.get 2).2 w):=by obtain ⟨a,cap,h1,h2,h3⟩:=h;refine (ve p a cap s w h1).mono ?_;rintro _ w' ⟨rfl,h4⟩;exact ⟨rfl,RAt.aft h2 h3 h4⟩
theorem fX (lo hi p:Nat) (s:RS) (w:World) (h:RAt lo hi p s w):
  Calls prog 80 #[.pointer (some ⟨p,0,none⟩)] w (Gets lo hi p .u32 (s.get 4).1 (s.get 4).2 w):=by obtain ⟨a,cap,h1,h2,h3⟩:=h;refine (n7 p a cap s w h1).mono ?_;rintro _ w' ⟨rfl,h4⟩;exact ⟨rfl,RAt.aft h2 h3 h4⟩
theorem tN (lo hi p:Nat) (s:RS) (w:World) (h:RAt lo hi p s w):
  Calls prog 107 #[.pointer (some ⟨p,0,none⟩)] w (Gets lo hi p .u64 (s.get 8).1 (s.get 8).2 w):=by obtain ⟨a,cap,h1,h2,h3⟩:=h;refine (n6 p a cap s w h1).mono ?_;rintro _ w' ⟨rfl,h4⟩;exact ⟨rfl,RAt.aft h2 h3 h4⟩
theorem dY (s:RS) (k:Nat):(s.get k).1<256^k:=by unfold RS.get;split;exact Nat.pow_pos (by omega);split;exact Nat.pow_pos (by omega);have:=dV (s.rest.take k);rw [aC] at this;exact an this (Nat.pow_le_pow_right (by omega) (by omega))
def eN:Elt:={t:=96,e:=3,size:=1,bytes:=8,z:= .int .i64 0,hu:=underlying96,hi:=by kernel_rfl,hz:=rfl,h0:=by decide}
def cj (l:List Int):List Value:=l.map λx=>Value.int .i64 x
def ON (w:World) (oa:Option Addr) (cap:Nat) (l:List Int):Prop:=OR eN w oa cap l.length (cj l)
def EqA {α:Type} [DecidableEq α] (x y: α) (w:World) (e:Ending) (w':World):Prop:=e= .returned (.bool (decide (x=y)))∧Below w.heap.size w w'
def Nts (w:World) (a:Option Addr) (l:List Int):Prop:=l=[]∨∃ b off,a=some ⟨b,off,none⟩∧b<w.heap.size∧∀ i,i<l.length→w.cell? ⟨b,off+i,none⟩=some (.int .i64 (l.getD i 0))
theorem Nts.below {w w':World} {a:Option Addr} {l:List Int} (h:Nts w a l) (hb:Below w.heap.size w w'):Nts w' a l:=by rcases h with h|⟨b,off,h1,h2,h3⟩;exact .inl h;exact .inr ⟨b,off,h1,an h2 hb.size,λi hi=>(hb.cell (p:=⟨b,off+i,none⟩) h2).trans (h3 i hi)⟩
theorem Nts.at {w:World} {a:Option Addr} {l:List Int} (h:Nts w a l) {k:Nat} (hk:k<l.length):∃ b off,a=some ⟨b,off,none⟩∧b<w.heap.size∧w.cell? ⟨b,off+k,none⟩=some (.int .i64 (l.getD k 0)):=by rcases h with rfl|⟨b,off,h1,h2,h3⟩;simp at hk;exact ⟨b,off,h1,h2,h3 k hk⟩
theorem ON.nts {w:World} {oa:Option Addr} {cap:Nat} {l:List Int} (h:ON w oa cap l):Nts w oa l:=by
 rcases (OR.form h).2 with ⟨_,_,h0,_⟩|⟨g,rfl,hg,_⟩;exact .inl (bF.1 h0)
 ·refine .inr ⟨g,0,rfl,hg,λi hi=>?_⟩;have hc:(cj l)[i]?=some (.int .i64 (l.getD i 0)):=by simp [cj,aY,ap hi,au]
  obtain ⟨g',he,hcell,_⟩:=ai h hc;cases he;rw [bP];exact hcell
def RelN (w0:World) (xs ys:List Int) (i:Value) (wr:World):Prop:=∃ k d:Nat,k≤xs.length∧i= .int .i64 k∧(∀ j,j<k→xs[j]?=ys[j]?)∧wr=w0.drewN d
theorem fG (n:Int) (hn:n≤9223372036854775807) (w:World):Calls prog 66 #[.int .i64 n] w λe w'=>e= .returned (.int .i64 (nblocks n.toNat:Nat))∧w'=w:=by
 by_cases h:n<1
 ·have HR:=Hd (show nblocks n.toNat=0 by unfold nblocks;omega);rw [HR.out];go_enter func66,ntmps66;go_wp2_with fail;go_ret;exact ⟨rfl,rfl⟩
 ·obtain ⟨m,rfl⟩:∃ m:Nat,n=((m+1:Nat):Int):=⟨(n-1).toNat,by omega⟩;have HR:=Hd (show nblocks ((m+1:Nat):Int).toNat=m/240+1 by unfold nblocks;omega);rw [HR.out];have h1:((m+1:Nat):Int)-1=(m:Int):=by omega
  have hm:(m:Int)<9223372036854775807:=by omega
  generalize ((m+1:Nat):Int)=k at*;obtain rfl:k=(m:Int)+1:=by omega
  clear h1;go_enter func66,ntmps66;go_wp2_with fail;go_ret;exact ⟨by simp,rfl⟩
theorem tL (n i:Nat) (hn:n≤65536) (hi:i*240≤n) (w:World):Calls prog 67 #[.int .i64 (n:Int),.int .i64 (i:Int)] w λe w'=>e= .returned (.int .i64 (inBlk n i:Nat))∧w'=w:=by
 have H1:=Hd λ(h:(n:Int)-(i:Int)*240≤240)=>(show (n:Int)-(i:Int)*240=((inBlk n i:Nat):Int) by unfold inBlk;omega);have H2:=Hd λ(h:¬ (n:Int)-(i:Int)*240<240)=>(show (240:Int)=((inBlk n i:Nat):Int) by unfold inBlk;omega);generalize ((inBlk n i:Nat):Int)=v at*;go_enter func67,ntmps67;go_wp2_with fail
 all_goals
  go_ret
  first
   |exact ⟨by rw [←H1.out (by omega)];rfl,rfl⟩
   |exact ⟨by rw [←H2.out (by omega)];rfl,rfl⟩
theorem kM (gen pages:Int) (w:World):Calls prog 144 #[.int .i64 gen,.int .i64 pages] w λe w'=>e= .returned (.bool (decide ((0≤gen∧gen≤1099511627776)∧0≤pages∧pages≤65536)))∧w'=w:=by
 obtain ⟨b,hb⟩:∃ b,decide ((0≤gen∧gen≤1099511627776)∧0≤pages∧pages≤65536)=b:=⟨_,rfl⟩;have HB:=Hd hb;rw [hb];clear hb;go_enter func144,ntmps144;go_wp2_with fail
 all_goals
  go_ret;rw [←HB.out]
  first
   |exact ⟨congrArg (λb=>Ending.returned (.bool b)) (decide_eq_decide.2 ⟨λ_=>by omega,λ_=>by omega⟩),rfl⟩
   |exact ⟨congrArg (λb=>Ending.returned (.bool b)) (bo (by omega)).symm,rfl⟩
def dO (xs:List Nat):List Value:=xs.map λ(x:Nat)=>Value.int .u16 ((x:Nat):Int)
theorem oC (xs:List Nat):(dO xs).length=xs.length:=by simp [dO]
def CBox (w:World) (g:Nat) (xs:List Nat):Prop:=∃ T,w.heap[g]?=some (.cells (dO xs).toArray T)
theorem CBox.lt {w:World} {g:Nat} {xs:List Nat} (h:CBox w g xs):g<w.heap.size:=by obtain ⟨T,h⟩:=h;exact cA h
theorem CBox.chg {F:Nat→Prop} {w w':World} {g:Nat} {xs:List Nat} (h:CBox w g xs) (hc:Chg F w w') (hn:¬ F g):CBox w' g xs:=by have hl:=h.lt;obtain ⟨T,h⟩:=h;exact ⟨T,(hc.block g hl hn).trans h⟩
theorem CBox.cell {w:World} {g:Nat} {xs:List Nat} (h:CBox w g xs) {k:Nat} (hk:k<xs.length):w.cell? ⟨g,k,none⟩=some (.int .u16 (xs.getD k 0:Nat)):=by obtain ⟨T,h⟩:=h;rw [bd _ _ k _ T (0,0) h];simp [dO,au,hk]
def mY (gen pages i:Nat) (xs:List Nat):List UInt8:=blk1 gen i pages (xs.take (inBlk pages i))
def vV (W:World) (g p:Nat) (hd:List UInt8) (xs:List Nat) (n:Nat) (i:Value) (wr:World):Prop:=
 ∃ k:Nat,k≤n∧i= .int .i64 k∧WAt (· <W.heap.size) p (hd++cntB (xs.take k)) wr∧Chg (λk=>¬ k<W.heap.size) W wr
theorem AA (gen pages i:Nat) (xs:List Nat) (hx:xs.length=240) (hxs:∀ v∈xs,v<65536) (hg:gen≤1099511627776) (hp:pages≤65536) (hi:i*240≤pages) (w:World):
  Calls prog 68 #[.int .i64 (gen:Int),.int .i64 (pages:Int),.int .i64 (i:Int),.agg (dO xs).toArray] w (λe w'=>∃ oa cap,e= .returned (.slice oa 512 cap)∧OB w' oa cap (mY gen pages i xs)∧(∀ k,blk oa=some k→w.heap.size≤k)∧Below w.heap.size w w'):=by
   have HO:=Hd λw1=>tL pages i hp hi w1;have HN:=Hd (inBlk_le pages i);have Dx:=Hd (show mY gen pages i xs=blk1 gen i pages (xs.take (inBlk pages i)) from rfl);generalize inBlk pages i=n at*;have HX:=Hd hx;have Em:=Hd λ(k:Nat) (hk:k<xs.length)=>(show xs[k]?=some (xs.getD k 0)∧xs.getD k 0<65536 by rw [au,ap hk];exact ⟨rfl,hxs _ (List.getElem_mem hk)⟩);have HC0:=Hd (show CBox (w.alloc (.cells (dO xs).toArray 168)) w.heap.size xs from ⟨_,az _ _⟩);have BI:=Hd (bY w (.cells (dO xs).toArray 168));have DP:=Hd (show (w.alloc (.cells (dO xs).toArray 168)).heap.size=w.heap.size+1 by simp);clear hx hxs;go_enter func68,ntmps68;go_wp2_with fail;generalize w.alloc (.cells (dO xs).toArray 168)=w1 at*;(have hgw:w.heap.size<w1.heap.size:=by rw [DP.out];exact Nat.lt_succ_self _);refine (j1 512 w1).mono ?_;rintro _ w2 ⟨rfl,hW2,hb2⟩;have hW2:WAt (· <w1.heap.size) w1.heap.size [] w2:=⟨none,0,hW2,by omega,λk e=>by cases e⟩;have hz2:=hb2.size;have Bx:=Hd (ac (F:=λk=>¬ k<w1.heap.size) hb2);have H:=Hd (qR _ _ _ 66 (by omega) w2 (λk (hk:k<_)=>by omega) hW2 (by decide));clear hb2 hW2;go_wp2_with fail;refine H.out.mono ?_;clear H;rintro _ w3 ⟨rfl,hW3,hc3⟩;have BX:=Hd (Bx.out.trans hc3 (λ_ _ f=>f));have hz3:=BX.out.size;have H:=Hd (tK _ _ _ gen (by omega) w3 (λk (hk:k<_)=>by omega) hW3 (by simp [cd]));clear hc3 hW3 Bx;go_wp2_with fail;refine H.out.mono ?_;clear H;rintro _ w4 ⟨rfl,hW4,hc4⟩;have Bz:=Hd (BX.out.trans hc4 (λ_ _ f=>f));have hz4:=Bz.out.size;have H:=Hd (fW _ _ _ i (by omega) w4 (λk (hk:k<_)=>by omega) hW4 (by simp [cd]));clear hc4 hW4 BX;go_wp2_with fail;refine H.out.mono ?_;clear H;rintro _ w5 ⟨rfl,hW5,hc5⟩;have BE:=Hd (Bz.out.trans hc5 (λ_ _ f=>f));have hz5:=BE.out.size;have H:=Hd (fW _ _ _ pages (by omega) w5 (λk (hk:k<_)=>by omega) hW5 (by simp [cd]));clear hc5 hW5 Bz;go_wp2_with fail;refine H.out.mono ?_;clear H;rintro _ w6 ⟨rfl,hW6,hc6⟩;have Bu:=Hd (BE.out.trans hc6 (λ_ _ f=>f));have HW6:=Hd (show WAt (· <w1.heap.size) w1.heap.size (fg gen i pages) w6 from by simpa [fg] using hW6);clear hc6 hW6 BE;go_wp2_with fail;refine (HO.out _).mono ?_;rintro _ wx ⟨rfl,e0⟩;rw [e0];clear e0 wx;have hn:=HN.out;go_wp2_with fail;go_loopw [33] (λv wr=>vV w1 w.heap.size w1.heap.size (fg gen i pages) xs n v wr) (λv _=>n-(intOf v).toNat);case atStart=>exact ⟨0,aV _,rfl,by simpa [cntB] using HW6.out,Bu.out⟩
   case round=>
    clear HW6 Bu;obtain ⟨k,hk,rfl,hW,hC⟩:=hrel;by_cases hkn:k<n
    ·obtain ⟨hxk,hxl⟩:=Em.out k (by rw [HX.out];omega);have hcell:=(HC0.out.chg hC (λf=>f hgw)).cell (k:=k) (by rw [HX.out];omega);(have hk240:(k:Int)<240:=by omega);have Hsn:=Hd (yJ hxk);have BP:=Hd hC;have HJ:=Hd hkn;have hz:=hC.size;generalize xs.getD k 0=x at*;(have hlen:(fg gen i pages++cntB (xs.take k)).length+2≤512:=by rw [aq,dt,dP,aC];omega);have H:=Hd (putW16 _ _ _ x hxl wr (λk (hk:k<_)=>by omega) hW hlen);clear hxk hW hC hlen;go_wp2_with fail;refine H.out.mono ?_;clear H;rintro _ w7 ⟨rfl,hW7,hc7⟩;go_wp2_with fail;go_roundw;(case rel=>exact ⟨k+1,HJ.out,by go_num,by rw [Hsn.out,←aQ];exact hW7,BP.out.trans hc7 (λ_ _ f=>f)⟩);case measure=>exact kL HJ.out
    ·(obtain rfl:k=n:=by omega);(have hlen:(fg gen i pages++cntB (xs.take k)).length≤508:=by rw [aq,dt,dP,aC];omega);have hz:=hC.size;have BP:=Hd hC;have DU:=Hd (cM hlen);have CU:=Hd (show mY gen pages i xs=fullB (fg gen i pages++cntB (xs.take k))++leb 4 (Crc.ofs (fullB (fg gen i pages++cntB (xs.take k)))) from Dx.out);have H:=Hd (yT _ _ _ wr (λk (hk:k<_)=>by omega) hW hlen);generalize fullB (fg gen i pages++cntB (xs.take k))=fb at*;have hof:=Crc.ofs_lt fb;clear hW hC hlen;go_wp2_with fail;refine H.out.mono ?_;clear H;rintro _ w7 ⟨rfl,hW7,hc7⟩;have CK:=Hd (BP.out.trans hc7 (λ_ _ f=>f));have H:=Hd (qY _ _ _ w7 hW7);unfold rp at H;rw [DU.out] at H;clear hW7 hc7 BP;go_wp2_with fail;refine H.out.mono ?_;clear H;rintro _ w8 ⟨oa,oc,rfl,hO8,ho8,hW8,hb8⟩;have Eh:=Hd (CK.out.trans (ac (F:=λk=>¬ k<w1.heap.size) hb8) (λ_ _ f=>f));have H:=Hd (iF fb oa oc (by rw [DU.out];decide) w8 hO8.bts);rw [DU.out] at H;have HW8:=Hd hW8;clear hO8 ho8 hW8 hb8 CK;go_wp2_with fail;refine H.out.mono ?_;clear H;rintro _ w9 ⟨rfl,hb9⟩;have Ey:=Hd (Eh.out.trans (ac (F:=λk=>¬ k<w1.heap.size) hb9) (λ_ _ f=>f));have hz9:=Ey.out.size;have H:=Hd (fW _ _ _ (Crc.ofs fb) (by omega) w9 (λk (hk:k<_)=>by omega) (HW8.out.below hb9) (by rw [DU.out];decide));clear hb9 Eh HW8;generalize Crc.ofs fb=sm at*;go_wp2_with fail;refine H.out.mono ?_;clear H;rintro _ w10 ⟨rfl,hW10,hc10⟩;have Cn:=Hd (Ey.out.trans hc10 (λ_ _ f=>f));rw [←CU.out] at hW10;have HL12:=Hd (show (mY gen pages i xs).length=512 by rw [CU.out,aq,DU.out,cd]);have H:=Hd (qY _ _ _ w10 hW10);unfold rp at H;rw [HL12.out] at H;clear hW10 hc10 Ey;go_wp2_with fail;refine H.out.mono ?_;clear H;rintro _ w11 ⟨oa2,oc2,rfl,hO11,ho11, -,hb11⟩;have BD:=Hd (BI.out.trans (gA (B:=w1.heap.size) Cn.out (am _) |>.mono (Nat.le_of_lt hgw)))
     have HF:=Hd (show ∃ oa cap,Ending.returned (.slice oa2 512 oc2)= .returned (.slice oa 512 cap)∧OB w11 oa cap (mY gen pages i xs)∧(∀ k,blk oa=some k→w.heap.size≤k)∧Below w.heap.size w w11 from
      ⟨oa2,oc2,rfl,hO11,λk e=>ao BD.out.size (ho11 k e),BD.out.trans (hb11.mono BD.out.size)⟩)
     clear hO11 ho11 hb11;go_wp2_with fail;go_ret;exact HF.out
end Go.Proofs.YtchbedbmjiabgaaGreatDoor.Wi.Ba
