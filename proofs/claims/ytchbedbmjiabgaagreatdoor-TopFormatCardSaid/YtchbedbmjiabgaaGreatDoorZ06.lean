/- TopFormat, part 6 of the proof: RdGet BkL. No condition. -/
import Derived.StillTailTactics
import Derived.Test.YtchbedbmjiabgaaGreatDoorZ05
set_option linter.all false
set_option maxHeartbeats 16000000
set_option maxRecDepth 100000
namespace Go.Proofs.YtchbedbmjiabgaaGreatDoor.Wi
open Go.RowKit Go.Proofs.Tryz
def unle:List UInt8→Nat
 |[]=>0
 |b::t=>b.toNat+256*unle t
theorem lK (l:List UInt8) (b:UInt8):unle (l++[b])=unle l+b.toNat*256^l.length:=by
 induction l with
 |nil=>simp [unle]
 |cons c l ih=>simp only [aZ,unle,ih,aG,Nat.pow_succ];rw [Nat.mul_add,Nat.add_assoc];congr 2;rw [Nat.mul_left_comm,Nat.mul_comm 256]
theorem dV (l:List UInt8):unle l<256^l.length:=by
 induction l with
 |nil=>simp [unle]
 |cons c l ih=>simp only [unle,aG,Nat.pow_succ];have:=c.toNat_lt;omega
theorem nE (x b i:Nat) (hx:x<256^i):x|||(b*256^i)=x+b*256^i:=by rw [show 256=2^8 by rfl,←Nat.pow_mul] at*;rw [Nat.mul_comm b,Nat.or_comm,←Nat.two_pow_add_eq_or_of_lt hx,Nat.add_comm]
theorem qe (x b j:Nat) (hj:j<8) (hx:x<256^j) (hb:b<256):bits .or .u64 (x:Int) (IntKind.u64.wrap (IntKind.u64.wrap (b:Int)*2^(8*j)))=((x+b*256^j:Nat):Int):=by
 have hp:(256:Nat)^j*256≤18446744073709551616:=by rw [←Nat.pow_succ,show 18446744073709551616=256^8 by rfl];exact Nat.pow_le_pow_right (by decide) (by omega)
 have h1:b*256^j<18446744073709551616:=by have h2:(b+1)*256^j≤256*256^j:=Nat.mul_le_mul_right _ (by omega);have h3:0<256^j:=Nat.pow_pos (by decide);rw [Nat.add_mul] at h2;omega
 have e0:(2:Int)^(8*j)=((256^j:Nat):Int):=by rw [show (256:Nat)=2^8 by rfl,←Nat.pow_mul];simp
 have e1:IntKind.u64.wrap (IntKind.u64.wrap (b:Int)*2^(8*j))=((b*256^j:Nat):Int):=by
  have e2:IntKind.u64.wrap (b:Int)=(b:Int):=by rw [IntKind.wrap_u64];exact Int.emod_eq_of_lt (by omega) (by omega)
  rw [e2,e0,←Int.natCast_mul,IntKind.wrap_u64];exact Int.emod_eq_of_lt (by omega) (by omega)
 rw [e1,bits_or_u64_nat _ _ (by omega) h1,nE _ _ _ hx]
theorem gr (l:List UInt8) (j:Nat) (hj:j<l.length) (h8:j<8):bits .or .u64 ((unle (l.take j):Nat):Int) (IntKind.u64.wrap (IntKind.u64.wrap ((l[j]?.getD 0).toNat:Int)*2^(8*j)))=((unle (l.take (j+1)):Nat):Int):=by
 have hl:(l.take j).length=j:=by rw [aC];omega
 have h:=dV (l.take j);rw [hl] at h;rw [qe _ _ j h8 h (UInt8.toNat_lt _),bm,ap hj];simp only [Option.toList_some,bA,lK,hl]
theorem IsR.drew {w:World} {p:Nat} {a:Option Addr} {cap:Nat} {s:RS} (h:IsR w p a cap s):IsR w.drew p a cap s:=h.chg (F:=λ_=>False) (ae _ w).drew (λf=>f) (λ_ _ f=>f)
end Go.Proofs.YtchbedbmjiabgaaGreatDoor.Wi
namespace Go.Proofs.YtchbedbmjiabgaaGreatDoor
open Go.RowKit Go.Proofs.Tryz Go.Proofs.YtchbedbmjiabgaaGreatDoor.Wi
theorem OB.pos {w:World} {oa:Option Addr} {cap:Nat} {bs:List UInt8} (h:OB w oa cap bs) (hb:0<bs.length):∃ g,oa=some ⟨g,0,none⟩:=by rcases (OR.form h).2 with ⟨_,_,h0,_⟩|⟨g,h1,_⟩;omega;exact ⟨g,h1⟩
end Go.Proofs.YtchbedbmjiabgaaGreatDoor
namespace Go.Proofs.YtchbedbmjiabgaaGreatDoor.Wi
open Go.RowKit Go.Proofs.Tryz
def p8 (l:List UInt8) (x i:Value):Prop:=∃ j:Nat,j≤l.length∧i= .int .i64 j∧x= .int .u64 ((unle (l.take j):Nat):Int)
def Aft (w:World) (p:Nat) (a:Option Addr) (s:RS) (w':World):Prop:=∃ a' cap',IsR w' p a' cap' s∧blk a'=blk a∧Chg (λk=>k=p) w w'
theorem Aft.pre {w0 w w':World} {p:Nat} {a:Option Addr} {s:RS} (h:Aft w p a s w') (hb:Chg (λk=>k=p) w0 w):Aft w0 p a s w':=by obtain ⟨a',cap',h1,h2,h3⟩:=h;exact ⟨a',cap',h1,h2,hb.trans h3 (λ_ _ f=>f)⟩
theorem Aft.post {w w1 w':World} {p:Nat} {a:Option Addr} {s:RS} (h:Aft w p a s w1) (hb:Below w1.heap.size w1 w'):Aft w p a s w':=by obtain ⟨a',cap',h1,h2,h3⟩:=h;exact ⟨a',cap',h1.below hb,h2,h3.trans (ac hb (F:=λ_=>False)) (λ_ _ f=>f.elim)⟩
theorem Aft.gave {w w':World} {p e:Nat} {a:Option Addr} {cap:Nat} {s:RS} {z:Value} {x:Ending} (h:Gave p a cap s e z w x w'):x= .returned z∧Aft w p a {s with err:=e} w':=⟨h.1,a,cap,h.2.1,rfl,h.2.2⟩
theorem Aft.read {w w1 w2 w':World} {p:Nat} {a:Option Addr} {s:RS} (hp:p<w.heap.size) (ha:∀ k,blk a=some k→k<w.heap.size) (hb:Below w.heap.size w w1) (hs:w.heap.size+3=w1.heap.size) (h:Aft w1 p a s w2) (hc:Chg (λk=>k=w.heap.size+1) w2 w'):Aft w p a s w':=by obtain ⟨a',cap',h1,h2,h3⟩:=h;refine ⟨a',cap',h1.chg hc (by omega) (λk hk=>?_),h2,?_⟩;have:=ha k (by rw [←h2];exact hk);omega;exact ((ac hb (F:=λk=>k=p)).trans h3 (λ_ _ f=>f)).trans hc (λi hi e=>by omega)
theorem IsR.after {w w':World} {p:Nat} {a:Option Addr} {cap:Nat} {s:RS} (h:IsR w p a cap s) (hb:Below w.heap.size w w'):Aft w p a s w':=⟨a,cap,h.below hb,rfl,ac hb⟩
def RS.get (k:Nat) (s:RS):Nat×RS:=if s.err≠0 then (0,s) else if s.rest.length<k then (0,{s with err:=2}) else (unle (s.rest.take k),{s with rest:=s.rest.drop k})
theorem gW (w:World):Calls prog 101 #[] w λe w'=>e= .returned (.int .i64 1)∧w'=w:=(mw w).mono λ_ _ h=>⟨h.1,h.2.symm⟩
theorem vd (p g:Nat) (a:Option Addr) (cap:Nat) (s:RS) (w:World) (h:IsR w p a cap s) (hg:w.cell? ⟨g,0,none⟩=some (.pointer (some ⟨p,0,none⟩))) (hl:1≤s.rest.length):
  Calls prog 143 #[.pointer (some ⟨g,0,none⟩)] w λx w'=>x= .returned (.int .u8 (unle (s.rest.take 1):Nat))∧Aft w p a {s with rest:=s.rest.drop 1} w':=by
   have H:=Hd (kJ p a cap s 1 hl w.drew h.drew);obtain ⟨l,el⟩:∃ l,s.rest.take 1=l:=⟨_,rfl⟩;have HT:=Hd (show l.length=1 by rw [←el,aC];omega);rw [el];have El:=Hd el;obtain ⟨s',es⟩:∃ s',{s with rest:=s.rest.drop 1}=s':=⟨_,rfl⟩;rw [es];have Es:=Hd es;clear h el es;go_enter func143,ntmps143;go_wp2_with fail;refine wp_region_still_tail 2 (by kernel_rfl) (by kernel_rfl) ?_;simp only [aI,aJ,aw,ax];still_step;still_call (gW _);refine wpStill_nil ?_;change wpList _ _ _ _ _ w.drew;go_wp2_with fail;refine H.out.mono ?_;rintro _ w2 ⟨oa,cap2,a',cap',rfl,hO,hoa,hR,hbk,hC⟩;rw [El.out] at hO;rw [Es.out] at hR;have HR:=Hd hR;have HC:=Hd hC;clear hR hC hoa H;obtain ⟨gl,rfl⟩:=hO.pos (by rw [HT.out];decide);go_wp2_with fail;go_loop [3,10] (p8 l) (λ_ i=>1-(intOf i).toNat);case atStart=>exact ⟨0,aV _,rfl,rfl⟩
   case round=>
    obtain ⟨j,hj,rfl,rfl⟩:=hrel;rw [HT.out] at hj;by_cases hlt:j<1
    ·obtain ⟨hc,hf⟩:=hO.cell (i:=j) (by rw [HT.out];exact hlt);go_wp2_with fail;rw [gr l j (by rw [HT.out];exact hlt) (by omega)];go_round;(case rel=>exact ⟨j+1,by rw [HT.out];omega,by go_num,rfl⟩);case measure=>simp [intOf];omega
    ·go_wp2_with fail;have hu:=dV l;rw [HT.out] at hu;rw [av (i:=j) (l:=l) (by rw [HT.out];omega),Int.emod_eq_of_lt (by omega) (by omega)];go_ret;exact ⟨rfl,a',cap',HR.out,hbk,(ae _ w).drew.trans HC.out (λ_ _ h=>h)⟩
theorem vb (p g:Nat) (a:Option Addr) (cap:Nat) (s:RS) (w:World) (h:IsR w p a cap s) (hg:w.cell? ⟨g,0,none⟩=some (.pointer (some ⟨p,0,none⟩))) (hl:s.rest.length<1):
  Calls prog 143 #[.pointer (some ⟨g,0,none⟩)] w (Threw p 2 w):=by have H:=Hd (iU p a cap s 1 (by decide) (by omega) w.drew h.drew);have HR:=Hd h;clear h;go_enter func143,ntmps143;go_wp2_with fail;refine wp_region_still_tail 2 (by kernel_rfl) (by kernel_rfl) ?_;simp only [aI,aJ,aw,ax];still_step;still_call (gW _);refine wpStill_nil ?_;change wpList _ _ _ _ _ w.drew;go_wp2_with fail;refine H.out.mono ?_;rintro _ _ ⟨rfl,rfl⟩;refine ⟨rfl,rfl,?_⟩;exact ⟨(ae _ w).drew,a,cap,s,HR.out.drew⟩
theorem u9 (p g:Nat) (a:Option Addr) (cap:Nat) (s:RS) (w:World) (h:IsR w p a cap s) (hg:w.heap[g]?=some (.cells #[.pointer (some ⟨p,0,none⟩)] 183)):
  Calls prog 142 #[.pointer (some ⟨p,0,none⟩),.func (.func 143) #[] #[.pointer (some ⟨g,0,none⟩)]] w λx w'=>x= .returned (.int .u8 ((s.get 1).1:Nat))∧Aft w p a (s.get 1).2 w':=by
   (have hcf:∀ w0:World,(callFunc 143 #[.pointer (some ⟨g,0,none⟩)]).run prog w0= .ok (.enter 143 #[.pointer (some ⟨g,0,none⟩)]) w0:=λ_=>by kernel_rfl);have hgl:=cA hg;have hgc:∀ w1,Below w.heap.size w w1→w1.cell? ⟨g,0,none⟩=some (.pointer (some ⟨p,0,none⟩)):=λw1 hb=>(dq ((hb.block g hgl).trans hg)).1;by_cases he:s.err=0
   ·by_cases hl:s.rest.length<1
    ·(have e:s.get 1=(0,{s with err:=2}):=by simp [RS.get,he,hl]);rw [e];exact (mP p a cap s _ _ 2 w h he (by decide) hcf λw1 hb=>vb p g a cap s w1 (h.below hb) (hgc w1 hb) hl).mono λx w' hG=>Aft.gave hG
    ·(have e:s.get 1=(unle (s.rest.take 1),{s with rest:=s.rest.drop 1}):=by simp [RS.get,he,hl]);rw [e];refine (mQ p a cap s _ _ (λv w1 w2=>v= .int .u8 (unle (s.rest.take 1):Nat)∧Aft w1 p a {s with rest:=s.rest.drop 1} w2) w h he hcf λw1 hb _=>(vd p g a cap s w1 (h.below hb) (hgc w1 hb) (by omega)).mono ?_).mono ?_;rintro x w2 ⟨rfl,hA⟩;have hA2:=hA;obtain ⟨a',cap',_,_,h3⟩:=hA2;exact ⟨_,rfl,⟨rfl,hA⟩,h3,_,rfl⟩;rintro x w' ⟨v,w1,w2,rfl,hb,hs,⟨rfl,hA⟩,hc⟩;exact ⟨rfl,Aft.read h.lt (h.2.2.2.2.2.2.2) hb hs hA hc⟩
   ·(have e:s.get 1=(0,s):=by simp [RS.get,he]);rw [e];exact (mO p a cap s _ w h he).mono λx w' hx=>⟨hx.1,h.after hx.2⟩
theorem pK (p:Nat) (a:Option Addr) (cap:Nat) (s:RS) (w:World) (h:IsR w p a cap s):
  Calls prog 108 #[.pointer (some ⟨p,0,none⟩)] w λx w'=>x= .returned (.int .u8 ((s.get 1).1:Nat))∧Aft w p a (s.get 1).2 w':=by have hmf:∀ (fn:Fn) (first cap:Array Value) (w:World),(Instr.makeFunc fn first cap).run prog w= .ok (.func fn first cap) w:=λ_ _ _ _=>rfl;have hB:=(aA w.heap.size w).alloc (am _) (.cells #[.pointer (some ⟨p,0,none⟩)] 183);have hg:=az w (.cells #[.pointer (some ⟨p,0,none⟩)] 183);have h2:=h.below hB;have HB:=Hd hB;have H:=Hd (u9 p w.heap.size a cap s _ h2 hg);clear hB h h2 hg;go_enter func108,ntmps108;go_wp2_with fail;refine H.out.mono ?_;rintro _ w3 ⟨rfl,h3⟩;go_wp2_with fail;go_ret;exact ⟨rfl,h3.pre (ac HB.out)⟩
theorem gK (w:World):Calls prog 136 #[] w λe w'=>e= .returned (.int .i64 2)∧w'=w:=(lq w).mono λ_ _ h=>⟨h.1,h.2.symm⟩
theorem tk (p g:Nat) (a:Option Addr) (cap:Nat) (s:RS) (w:World) (h:IsR w p a cap s) (hg:w.cell? ⟨g,0,none⟩=some (.pointer (some ⟨p,0,none⟩))) (hl:2≤s.rest.length):
  Calls prog 179 #[.pointer (some ⟨g,0,none⟩)] w λx w'=>x= .returned (.int .u16 (unle (s.rest.take 2):Nat))∧Aft w p a {s with rest:=s.rest.drop 2} w':=by
   have H:=Hd (kJ p a cap s 2 hl w.drew h.drew);obtain ⟨l,el⟩:∃ l,s.rest.take 2=l:=⟨_,rfl⟩;have HT:=Hd (show l.length=2 by rw [←el,aC];omega);rw [el];have El:=Hd el;obtain ⟨s',es⟩:∃ s',{s with rest:=s.rest.drop 2}=s':=⟨_,rfl⟩;rw [es];have Es:=Hd es;clear h el es;go_enter func179,ntmps179;go_wp2_with fail;refine wp_region_still_tail 2 (by kernel_rfl) (by kernel_rfl) ?_;simp only [aI,aJ,aw,ax];still_step;still_call (gK _);refine wpStill_nil ?_;change wpList _ _ _ _ _ w.drew;go_wp2_with fail;refine H.out.mono ?_;rintro _ w2 ⟨oa,cap2,a',cap',rfl,hO,hoa,hR,hbk,hC⟩;rw [El.out] at hO;rw [Es.out] at hR;have HR:=Hd hR;have HC:=Hd hC;clear hR hC hoa H;obtain ⟨gl,rfl⟩:=hO.pos (by rw [HT.out];decide);go_wp2_with fail;go_loop [3,10] (p8 l) (λ_ i=>2-(intOf i).toNat);case atStart=>exact ⟨0,aV _,rfl,rfl⟩
   case round=>
    obtain ⟨j,hj,rfl,rfl⟩:=hrel;rw [HT.out] at hj;by_cases hlt:j<2
    ·obtain ⟨hc,hf⟩:=hO.cell (i:=j) (by rw [HT.out];exact hlt);go_wp2_with fail;rw [gr l j (by rw [HT.out];exact hlt) (by omega)];go_round;(case rel=>exact ⟨j+1,by rw [HT.out];omega,by go_num,rfl⟩);case measure=>simp [intOf];omega
    ·go_wp2_with fail;have hu:=dV l;rw [HT.out] at hu;rw [av (i:=j) (l:=l) (by rw [HT.out];omega),IntKind.wrap_u16,Int.emod_eq_of_lt (by omega) (by omega)];go_ret;exact ⟨rfl,a',cap',HR.out,hbk,(ae _ w).drew.trans HC.out (λ_ _ h=>h)⟩
theorem th (p g:Nat) (a:Option Addr) (cap:Nat) (s:RS) (w:World) (h:IsR w p a cap s) (hg:w.cell? ⟨g,0,none⟩=some (.pointer (some ⟨p,0,none⟩))) (hl:s.rest.length<2):
  Calls prog 179 #[.pointer (some ⟨g,0,none⟩)] w (Threw p 2 w):=by have H:=Hd (iU p a cap s 2 (by decide) (by omega) w.drew h.drew);have HR:=Hd h;clear h;go_enter func179,ntmps179;go_wp2_with fail;refine wp_region_still_tail 2 (by kernel_rfl) (by kernel_rfl) ?_;simp only [aI,aJ,aw,ax];still_step;still_call (gK _);refine wpStill_nil ?_;change wpList _ _ _ _ _ w.drew;go_wp2_with fail;refine H.out.mono ?_;rintro _ _ ⟨rfl,rfl⟩;refine ⟨rfl,rfl,?_⟩;exact ⟨(ae _ w).drew,a,cap,s,HR.out.drew⟩
theorem te (p g:Nat) (a:Option Addr) (cap:Nat) (s:RS) (w:World) (h:IsR w p a cap s) (hg:w.heap[g]?=some (.cells #[.pointer (some ⟨p,0,none⟩)] 183)):
  Calls prog 178 #[.pointer (some ⟨p,0,none⟩),.func (.func 179) #[] #[.pointer (some ⟨g,0,none⟩)]] w λx w'=>x= .returned (.int .u16 ((s.get 2).1:Nat))∧Aft w p a (s.get 2).2 w':=by
   (have hcf:∀ w0:World,(callFunc 179 #[.pointer (some ⟨g,0,none⟩)]).run prog w0= .ok (.enter 179 #[.pointer (some ⟨g,0,none⟩)]) w0:=λ_=>by kernel_rfl);have hgl:=cA hg;have hgc:∀ w1,Below w.heap.size w w1→w1.cell? ⟨g,0,none⟩=some (.pointer (some ⟨p,0,none⟩)):=λw1 hb=>(dq ((hb.block g hgl).trans hg)).1;by_cases he:s.err=0
   ·by_cases hl:s.rest.length<2
    ·(have e:s.get 2=(0,{s with err:=2}):=by simp [RS.get,he,hl]);rw [e];exact (mf p a cap s _ _ 2 w h he (by decide) hcf λw1 hb=>th p g a cap s w1 (h.below hb) (hgc w1 hb) hl).mono λx w' hG=>Aft.gave hG
    ·(have e:s.get 2=(unle (s.rest.take 2),{s with rest:=s.rest.drop 2}):=by simp [RS.get,he,hl]);rw [e];refine (mn p a cap s _ _ (λv w1 w2=>v= .int .u16 (unle (s.rest.take 2):Nat)∧Aft w1 p a {s with rest:=s.rest.drop 2} w2) w h he hcf λw1 hb _=>(tk p g a cap s w1 (h.below hb) (hgc w1 hb) (by omega)).mono ?_).mono ?_;rintro x w2 ⟨rfl,hA⟩;have hA2:=hA;obtain ⟨a',cap',_,_,h3⟩:=hA2;exact ⟨_,rfl,⟨rfl,hA⟩,h3,_,rfl⟩;rintro x w' ⟨v,w1,w2,rfl,hb,hs,⟨rfl,hA⟩,hc⟩;exact ⟨rfl,Aft.read h.lt (h.2.2.2.2.2.2.2) hb hs hA hc⟩
   ·(have e:s.get 2=(0,s):=by simp [RS.get,he]);rw [e];exact (ma p a cap s _ w h he).mono λx w' hx=>⟨hx.1,h.after hx.2⟩
theorem ve (p:Nat) (a:Option Addr) (cap:Nat) (s:RS) (w:World) (h:IsR w p a cap s):
  Calls prog 145 #[.pointer (some ⟨p,0,none⟩)] w λx w'=>x= .returned (.int .u16 ((s.get 2).1:Nat))∧Aft w p a (s.get 2).2 w':=by have hmf:∀ (fn:Fn) (first cap:Array Value) (w:World),(Instr.makeFunc fn first cap).run prog w= .ok (.func fn first cap) w:=λ_ _ _ _=>rfl;have hB:=(aA w.heap.size w).alloc (am _) (.cells #[.pointer (some ⟨p,0,none⟩)] 183);have hg:=az w (.cells #[.pointer (some ⟨p,0,none⟩)] 183);have h2:=h.below hB;have HB:=Hd hB;have H:=Hd (te p w.heap.size a cap s _ h2 hg);clear hB h h2 hg;go_enter func145,ntmps145;go_wp2_with fail;refine H.out.mono ?_;rintro _ w3 ⟨rfl,h3⟩;go_wp2_with fail;go_ret;exact ⟨rfl,h3.pre (ac HB.out)⟩
theorem gJ (w:World):Calls prog 98 #[] w λe w'=>e= .returned (.int .i64 4)∧w'=w:=(ln w).mono λ_ _ h=>⟨h.1,h.2.symm⟩
theorem tj (p g:Nat) (a:Option Addr) (cap:Nat) (s:RS) (w:World) (h:IsR w p a cap s) (hg:w.cell? ⟨g,0,none⟩=some (.pointer (some ⟨p,0,none⟩))) (hl:4≤s.rest.length):
  Calls prog 105 #[.pointer (some ⟨g,0,none⟩)] w λx w'=>x= .returned (.int .u32 (unle (s.rest.take 4):Nat))∧Aft w p a {s with rest:=s.rest.drop 4} w':=by
   have H:=Hd (kJ p a cap s 4 hl w.drew h.drew);obtain ⟨l,el⟩:∃ l,s.rest.take 4=l:=⟨_,rfl⟩;have HT:=Hd (show l.length=4 by rw [←el,aC];omega);rw [el];have El:=Hd el;obtain ⟨s',es⟩:∃ s',{s with rest:=s.rest.drop 4}=s':=⟨_,rfl⟩;rw [es];have Es:=Hd es;clear h el es;go_enter func105,ntmps105;go_wp2_with fail;refine wp_region_still_tail 2 (by kernel_rfl) (by kernel_rfl) ?_;simp only [aI,aJ,aw,ax];still_step;still_call (gJ _);refine wpStill_nil ?_;change wpList _ _ _ _ _ w.drew;go_wp2_with fail;refine H.out.mono ?_;rintro _ w2 ⟨oa,cap2,a',cap',rfl,hO,hoa,hR,hbk,hC⟩;rw [El.out] at hO;rw [Es.out] at hR;have HR:=Hd hR;have HC:=Hd hC;clear hR hC hoa H;obtain ⟨gl,rfl⟩:=hO.pos (by rw [HT.out];decide);go_wp2_with fail;go_loop [3,10] (p8 l) (λ_ i=>4-(intOf i).toNat);case atStart=>exact ⟨0,aV _,rfl,rfl⟩
   case round=>
    obtain ⟨j,hj,rfl,rfl⟩:=hrel;rw [HT.out] at hj;by_cases hlt:j<4
    ·obtain ⟨hc,hf⟩:=hO.cell (i:=j) (by rw [HT.out];exact hlt);go_wp2_with fail;rw [gr l j (by rw [HT.out];exact hlt) (by omega)];go_round;(case rel=>exact ⟨j+1,by rw [HT.out];omega,by go_num,rfl⟩);case measure=>simp [intOf];omega
    ·go_wp2_with fail;have hu:=dV l;rw [HT.out] at hu;rw [av (i:=j) (l:=l) (by rw [HT.out];omega),Int.emod_eq_of_lt (by omega) (by omega)];go_ret;exact ⟨rfl,a',cap',HR.out,hbk,(ae _ w).drew.trans HC.out (λ_ _ h=>h)⟩
theorem tg (p g:Nat) (a:Option Addr) (cap:Nat) (s:RS) (w:World) (h:IsR w p a cap s) (hg:w.cell? ⟨g,0,none⟩=some (.pointer (some ⟨p,0,none⟩))) (hl:s.rest.length<4):
  Calls prog 105 #[.pointer (some ⟨g,0,none⟩)] w (Threw p 2 w):=by have H:=Hd (iU p a cap s 4 (by decide) (by omega) w.drew h.drew);have HR:=Hd h;clear h;go_enter func105,ntmps105;go_wp2_with fail;refine wp_region_still_tail 2 (by kernel_rfl) (by kernel_rfl) ?_;simp only [aI,aJ,aw,ax];still_step;still_call (gJ _);refine wpStill_nil ?_;change wpList _ _ _ _ _ w.drew;go_wp2_with fail;refine H.out.mono ?_;rintro _ _ ⟨rfl,rfl⟩;refine ⟨rfl,rfl,?_⟩;exact ⟨(ae _ w).drew,a,cap,s,HR.out.drew⟩
theorem td (p g:Nat) (a:Option Addr) (cap:Nat) (s:RS) (w:World) (h:IsR w p a cap s) (hg:w.heap[g]?=some (.cells #[.pointer (some ⟨p,0,none⟩)] 183)):
  Calls prog 104 #[.pointer (some ⟨p,0,none⟩),.func (.func 105) #[] #[.pointer (some ⟨g,0,none⟩)]] w λx w'=>x= .returned (.int .u32 ((s.get 4).1:Nat))∧Aft w p a (s.get 4).2 w':=by
   (have hcf:∀ w0:World,(callFunc 105 #[.pointer (some ⟨g,0,none⟩)]).run prog w0= .ok (.enter 105 #[.pointer (some ⟨g,0,none⟩)]) w0:=λ_=>by kernel_rfl);have hgl:=cA hg;have hgc:∀ w1,Below w.heap.size w w1→w1.cell? ⟨g,0,none⟩=some (.pointer (some ⟨p,0,none⟩)):=λw1 hb=>(dq ((hb.block g hgl).trans hg)).1;by_cases he:s.err=0
   ·by_cases hl:s.rest.length<4
    ·(have e:s.get 4=(0,{s with err:=2}):=by simp [RS.get,he,hl]);rw [e];exact (me p a cap s _ _ 2 w h he (by decide) hcf λw1 hb=>tg p g a cap s w1 (h.below hb) (hgc w1 hb) hl).mono λx w' hG=>Aft.gave hG
    ·(have e:s.get 4=(unle (s.rest.take 4),{s with rest:=s.rest.drop 4}):=by simp [RS.get,he,hl]);rw [e];refine (mj p a cap s _ _ (λv w1 w2=>v= .int .u32 (unle (s.rest.take 4):Nat)∧Aft w1 p a {s with rest:=s.rest.drop 4} w2) w h he hcf λw1 hb _=>(tj p g a cap s w1 (h.below hb) (hgc w1 hb) (by omega)).mono ?_).mono ?_;rintro x w2 ⟨rfl,hA⟩;have hA2:=hA;obtain ⟨a',cap',_,_,h3⟩:=hA2;exact ⟨_,rfl,⟨rfl,hA⟩,h3,_,rfl⟩;rintro x w' ⟨v,w1,w2,rfl,hb,hs,⟨rfl,hA⟩,hc⟩;exact ⟨rfl,Aft.read h.lt (h.2.2.2.2.2.2.2) hb hs hA hc⟩
   ·(have e:s.get 4=(0,s):=by simp [RS.get,he]);rw [e];exact (l9 p a cap s _ w h he).mono λx w' hx=>⟨hx.1,h.after hx.2⟩
theorem n7 (p:Nat) (a:Option Addr) (cap:Nat) (s:RS) (w:World) (h:IsR w p a cap s):
  Calls prog 80 #[.pointer (some ⟨p,0,none⟩)] w λx w'=>x= .returned (.int .u32 ((s.get 4).1:Nat))∧Aft w p a (s.get 4).2 w':=by have hmf:∀ (fn:Fn) (first cap:Array Value) (w:World),(Instr.makeFunc fn first cap).run prog w= .ok (.func fn first cap) w:=λ_ _ _ _=>rfl;have hB:=(aA w.heap.size w).alloc (am _) (.cells #[.pointer (some ⟨p,0,none⟩)] 183);have hg:=az w (.cells #[.pointer (some ⟨p,0,none⟩)] 183);have h2:=h.below hB;have HB:=Hd hB;have H:=Hd (td p w.heap.size a cap s _ h2 hg);clear hB h h2 hg;go_enter func80,ntmps80;go_wp2_with fail;refine H.out.mono ?_;rintro _ w3 ⟨rfl,h3⟩;go_wp2_with fail;go_ret;exact ⟨rfl,h3.pre (ac HB.out)⟩
theorem gI (w:World):Calls prog 100 #[] w λe w'=>e= .returned (.int .i64 8)∧w'=w:=(lj w).mono λ_ _ h=>⟨h.1,h.2.symm⟩
theorem ti (p g:Nat) (a:Option Addr) (cap:Nat) (s:RS) (w:World) (h:IsR w p a cap s) (hg:w.cell? ⟨g,0,none⟩=some (.pointer (some ⟨p,0,none⟩))) (hl:8≤s.rest.length):
  Calls prog 141 #[.pointer (some ⟨g,0,none⟩)] w λx w'=>x= .returned (.int .u64 (unle (s.rest.take 8):Nat))∧Aft w p a {s with rest:=s.rest.drop 8} w':=by
   have H:=Hd (kJ p a cap s 8 hl w.drew h.drew);obtain ⟨l,el⟩:∃ l,s.rest.take 8=l:=⟨_,rfl⟩;have HT:=Hd (show l.length=8 by rw [←el,aC];omega);rw [el];have El:=Hd el;obtain ⟨s',es⟩:∃ s',{s with rest:=s.rest.drop 8}=s':=⟨_,rfl⟩;rw [es];have Es:=Hd es;clear h el es;go_enter func141,ntmps141;go_wp2_with fail;refine wp_region_still_tail 2 (by kernel_rfl) (by kernel_rfl) ?_;simp only [aI,aJ,aw,ax];still_step;still_call (gI _);refine wpStill_nil ?_;change wpList _ _ _ _ _ w.drew;go_wp2_with fail;refine H.out.mono ?_;rintro _ w2 ⟨oa,cap2,a',cap',rfl,hO,hoa,hR,hbk,hC⟩;rw [El.out] at hO;rw [Es.out] at hR;have HR:=Hd hR;have HC:=Hd hC;clear hR hC hoa H;obtain ⟨gl,rfl⟩:=hO.pos (by rw [HT.out];decide);go_wp2_with fail;go_loop [3,10] (p8 l) (λ_ i=>8-(intOf i).toNat);case atStart=>exact ⟨0,aV _,rfl,rfl⟩
   case round=>
    obtain ⟨j,hj,rfl,rfl⟩:=hrel;rw [HT.out] at hj;by_cases hlt:j<8
    ·obtain ⟨hc,hf⟩:=hO.cell (i:=j) (by rw [HT.out];exact hlt);go_wp2_with fail;rw [gr l j (by rw [HT.out];exact hlt) (by omega)];go_round;(case rel=>exact ⟨j+1,by rw [HT.out];omega,by go_num,rfl⟩);case measure=>simp [intOf];omega
    ·go_wp2_with fail;have hu:=dV l;rw [HT.out] at hu;rw [av (i:=j) (l:=l) (by rw [HT.out];omega)];go_ret;exact ⟨rfl,a',cap',HR.out,hbk,(ae _ w).drew.trans HC.out (λ_ _ h=>h)⟩
theorem tf (p g:Nat) (a:Option Addr) (cap:Nat) (s:RS) (w:World) (h:IsR w p a cap s) (hg:w.cell? ⟨g,0,none⟩=some (.pointer (some ⟨p,0,none⟩))) (hl:s.rest.length<8):
  Calls prog 141 #[.pointer (some ⟨g,0,none⟩)] w (Threw p 2 w):=by have H:=Hd (iU p a cap s 8 (by decide) (by omega) w.drew h.drew);have HR:=Hd h;clear h;go_enter func141,ntmps141;go_wp2_with fail;refine wp_region_still_tail 2 (by kernel_rfl) (by kernel_rfl) ?_;simp only [aI,aJ,aw,ax];still_step;still_call (gI _);refine wpStill_nil ?_;change wpList _ _ _ _ _ w.drew;go_wp2_with fail;refine H.out.mono ?_;rintro _ _ ⟨rfl,rfl⟩;refine ⟨rfl,rfl,?_⟩;exact ⟨(ae _ w).drew,a,cap,s,HR.out.drew⟩
theorem s9 (p g:Nat) (a:Option Addr) (cap:Nat) (s:RS) (w:World) (h:IsR w p a cap s) (hg:w.heap[g]?=some (.cells #[.pointer (some ⟨p,0,none⟩)] 183)):
  Calls prog 140 #[.pointer (some ⟨p,0,none⟩),.func (.func 141) #[] #[.pointer (some ⟨g,0,none⟩)]] w λx w'=>x= .returned (.int .u64 ((s.get 8).1:Nat))∧Aft w p a (s.get 8).2 w':=by
   (have hcf:∀ w0:World,(callFunc 141 #[.pointer (some ⟨g,0,none⟩)]).run prog w0= .ok (.enter 141 #[.pointer (some ⟨g,0,none⟩)]) w0:=λ_=>by kernel_rfl);have hgl:=cA hg;have hgc:∀ w1,Below w.heap.size w w1→w1.cell? ⟨g,0,none⟩=some (.pointer (some ⟨p,0,none⟩)):=λw1 hb=>(dq ((hb.block g hgl).trans hg)).1;by_cases he:s.err=0
   ·by_cases hl:s.rest.length<8
    ·(have e:s.get 8=(0,{s with err:=2}):=by simp [RS.get,he,hl]);rw [e];exact (mc p a cap s _ _ 2 w h he (by decide) hcf λw1 hb=>tf p g a cap s w1 (h.below hb) (hgc w1 hb) hl).mono λx w' hG=>Aft.gave hG
    ·(have e:s.get 8=(unle (s.rest.take 8),{s with rest:=s.rest.drop 8}):=by simp [RS.get,he,hl]);rw [e];refine (mh p a cap s _ _ (λv w1 w2=>v= .int .u64 (unle (s.rest.take 8):Nat)∧Aft w1 p a {s with rest:=s.rest.drop 8} w2) w h he hcf λw1 hb _=>(ti p g a cap s w1 (h.below hb) (hgc w1 hb) (by omega)).mono ?_).mono ?_;rintro x w2 ⟨rfl,hA⟩;have hA2:=hA;obtain ⟨a',cap',_,_,h3⟩:=hA2;exact ⟨_,rfl,⟨rfl,hA⟩,h3,_,rfl⟩;rintro x w' ⟨v,w1,w2,rfl,hb,hs,⟨rfl,hA⟩,hc⟩;exact ⟨rfl,Aft.read h.lt (h.2.2.2.2.2.2.2) hb hs hA hc⟩
   ·(have e:s.get 8=(0,s):=by simp [RS.get,he]);rw [e];exact (l8 p a cap s _ w h he).mono λx w' hx=>⟨hx.1,h.after hx.2⟩
theorem n6 (p:Nat) (a:Option Addr) (cap:Nat) (s:RS) (w:World) (h:IsR w p a cap s):
  Calls prog 107 #[.pointer (some ⟨p,0,none⟩)] w λx w'=>x= .returned (.int .u64 ((s.get 8).1:Nat))∧Aft w p a (s.get 8).2 w':=by have hmf:∀ (fn:Fn) (first cap:Array Value) (w:World),(Instr.makeFunc fn first cap).run prog w= .ok (.func fn first cap) w:=λ_ _ _ _=>rfl;have hB:=(aA w.heap.size w).alloc (am _) (.cells #[.pointer (some ⟨p,0,none⟩)] 183);have hg:=az w (.cells #[.pointer (some ⟨p,0,none⟩)] 183);have h2:=h.below hB;have HB:=Hd hB;have H:=Hd (s9 p w.heap.size a cap s _ h2 hg);clear hB h h2 hg;go_enter func107,ntmps107;go_wp2_with fail;refine H.out.mono ?_;rintro _ w3 ⟨rfl,h3⟩;go_wp2_with fail;go_ret;exact ⟨rfl,h3.pre (ac HB.out)⟩
end Go.Proofs.YtchbedbmjiabgaaGreatDoor.Wi
namespace Go.Proofs.YtchbedbmjiabgaaGreatDoor.Wi.Ba
open Go.RowKit Go.Proofs.Tryz
def fullB (b:List UInt8):List UInt8:=b++List.replicate (508-b.length) 0
def summed (b:List UInt8):List UInt8:=b++leb 4 (Crc.ofs b)
theorem cM {b:List UInt8} (h:b.length≤508):(fullB b).length=508:=by simp [fullB];omega
theorem eS (b:List UInt8):(summed b).length=b.length+4:=by simp [summed,cd]
def fld (bs:List UInt8) (o k:Nat):Nat:=unle ((bs.drop o).take k)
theorem eO (k n:Nat) (h:n<256^k):unle (leb k n)=n:=by
 induction k generalizing n with
 |zero=>simp at h;subst h;rfl
 |succ k ih=>rw [leb,unle,ih _ (by rw [Nat.pow_succ] at h;exact Nat.div_lt_of_lt_mul (by rw [Nat.mul_comm];exact h)),UInt8.toNat_ofNat'];omega
theorem gD (x y:List UInt8) (o k:Nat):fld (x++y) (x.length+o) k=fld y o k:=by unfold fld;rw [List.drop_append,bN (by omega),a7];congr 3;omega
theorem fld_at (k n:Nat) (y:List UInt8) (h:n<256^k):fld (leb k n++y) 0 k=n:=by unfold fld;rw [ax,bG (by rw [cd];exact am _),av (by rw [cd];exact am _),eO k n h]
theorem cH (j m:Nat) (y:List UInt8) (o k:Nat) (h:j≤o):fld (leb j m++y) o k=fld y (o-j) k:=by have:=gD (leb j m) y (o-j) k;rw [cd,Nat.add_sub_cancel' h] at this;exact this
theorem cU (n:Nat) (h:n≤9223372036854775807):IntKind.i64.wrap (n:Int)=(n:Int):=by simp [IntKind.wrap,IntKind.signed,IntKind.bits];omega
theorem iV (b:List UInt8) (h:b.length=508):unle ((summed b).drop 508)=Crc.ofs ((summed b).take 508):=by rw [summed,List.drop_append_of_le_length (by omega),bG (by omega),List.drop_of_length_le (by omega),av (by omega),a7,eO _ _ (Crc.ofs_lt _)]
theorem pW {a x:UInt8} (h:x≠0):a^^^x≠a:=by intro e;apply h;have:=congrArg (a^^^·) e;simpa [←UInt8.xor_assoc] using this
theorem iz {a b:List UInt8} (hl:a.length=b.length) (h:unle a=unle b):a=b:=by
 induction a generalizing b with
 |nil=>cases b with
  |nil=>rfl
  |cons y b=>simp at hl
 |cons x a ih=>cases b with
  |nil=>simp at hl
  |cons y b=>
   simp only [unle] at h
   have hx:=x.toNat_lt
   have hy:=y.toNat_lt
   have e1:x.toNat=y.toNat:=by omega
   have e2:unle a=unle b:=by omega
   rw [UInt8.toNat_inj.1 e1,ih (by simpa using hl) e2]
theorem wX {bs:List UInt8} (hl:bs.length=512) (hs:unle (bs.drop 508)=Crc.ofs (bs.take 508)) {o:Nat} (ho:o<512) {x:UInt8} (hx:x≠0):
  unle ((bs.set o (bs.getD o 0^^^x)).drop 508)≠Crc.ofs ((bs.set o (bs.getD o 0^^^x)).take 508):=by
   by_cases h:o<508
   ·rw [List.drop_set_of_lt h,hs,List.take_set];(have e:bs.getD o 0=(bs.take 508).getD o 0:=by rw [au,au,bI h]);rw [e];have hx0:x.toNat≠0:=λe=>hx (UInt8.toNat_inj.1 e);have hlt:=x.toNat_lt;have h1:=Crc.le_set (bs.take 508) o x (by rw [aC];omega);rw [show 256^o=2^(8*o) by rw [Nat.pow_mul]] at h1;exact Crc.tells (m:=x.toNat) (f:=8*o) (by omega) hx0 (by rw [List.length_set]) (by rw [aC];omega) h1
   rw [List.take_set_of_le (by omega),←hs,List.drop_set];intro e;rw [bg h] at e;have:=iz (by rw [List.length_set]) e;have h2:=congrArg (·[o-508]?) this;rw [List.getElem?_set_self (by rw [aL];omega),List.getElem?_drop,show 508+(o-508)=o by omega,ap (by omega),au,ap (by omega)] at h2;exact pW hx (a8 h2)
theorem nJ {xs:List UInt8} {k:Nat} (h:xs.length=k):leb k (unle xs)=xs:=by subst h;exact iz (cd _ _) (eO _ _ (dV xs))
theorem eu {bs:List UInt8} {o k:Nat} (h:o+k≤bs.length):leb k (fld bs o k)=(bs.drop o).take k:=nJ (by rw [aC,aL];omega)
theorem fY (bs:List UInt8) (o k:Nat):fld bs o k<256^k:=by unfold fld;have:=dV ((bs.drop o).take k);rw [aC] at this;exact an this (Nat.pow_le_pow_right (by decide) (by omega))
def cntB (xs:List Nat):List UInt8:=xs.flatMap (leb 2)
theorem dP (xs:List Nat):(cntB xs).length=2*xs.length:=by
 induction xs with
 |nil=>rfl
 |cons x xs ih=>have e:cntB (x::xs)=leb 2 x++cntB xs:=rfl;rw [e,aq,cd,ih,aG];omega
theorem yJ {xs:List Nat} {k x:Nat} (h:xs[k]?=some x):cntB (xs.take (k+1))=cntB (xs.take k)++leb 2 x:=by rw [bm,h];simp [cntB]
def fg (gen i n:Nat):List UInt8:=leb 1 66++leb 8 gen++leb 4 i++leb 4 n
theorem dt (gen i n:Nat):(fg gen i n).length=17:=by simp [fg,cd]
def blk1 (gen i n:Nat) (xs:List Nat):List UInt8:=summed (fullB (fg gen i n++cntB xs))
def nblocks (n:Nat):Nat:=(n+239)/240
def inBlk (n i:Nat):Nat:=min (n-i*240) 240
def part (cs:List Nat) (i:Nat):List Nat:=(cs.drop (i*240)).take 240
theorem part_length (cs:List Nat) (i:Nat):(part cs i).length=inBlk cs.length i:=by simp [part,inBlk];omega
theorem inBlk_le (n i:Nat):inBlk n i≤240:=by unfold inBlk;omega
theorem blk1_length {gen i n:Nat} {xs:List Nat} (h:xs.length≤240):(blk1 gen i n xs).length=512:=by rw [blk1,eS,cM (by rw [aq,dt,dP];omega)]
def eL (bs:List UInt8) (o n:Nat):List Nat:=(List.range n).map λk=>fld bs (o+2*k) 2
theorem numsAt_length (bs:List UInt8) (o n:Nat):(eL bs o n).length=n:=by simp [eL]
theorem sO (bs:List UInt8) (o n:Nat):eL bs o (n+1)=eL bs o n++[fld bs (o+2*n) 2]:=by simp [eL,List.range_succ]
theorem sP:∀ {xs:List Nat} (x y:List UInt8),(∀ v∈xs,v<65536)→eL (x++(cntB xs++y)) x.length xs.length=xs:=by
 intro xs;induction xs with
 |nil=>intro x y _;rfl
 |cons v xs ih=>
  intro x y h;have e:cntB (v::xs)=leb 2 v++cntB xs:=rfl;have h1:fld (x++(cntB (v::xs)++y)) x.length 2=v:=by have:=gD x (cntB (v::xs)++y) 0 2;rw [Nat.add_zero] at this;rw [this,e,aQ,fld_at 2 v _ (h v (by simp))]
  have h2:=ih (x++leb 2 v) y (λz hz=>h z (by simp [hz]));rw [aG];unfold eL at h2⊢;rw [List.range_succ_eq_map,a9,List.map_map];congr 1;refine Eq.trans ?_ h2;apply List.map_congr_left;intro k _;simp only [Function.comp,e];rw [aq,cd];congr 1;simp;omega
def mayB (gen pages i:Int):Prop:=(0≤gen∧gen≤1099511627776)∧(0≤pages∧pages≤65536)∧0≤i∧i<(nblocks pages.toNat:Nat)
instance (gen pages i:Int):Decidable (mayB gen pages i):=by unfold mayB;infer_instance
def bread (gen pages i:Nat) (bs:List UInt8):Int×List Nat:=
 if bs.length≠512 then (16,[])
 else if unle (bs.drop 508)≠Crc.ofs (bs.take 508) then (6,[])
 else if fld bs 0 1≠66 then (5,[])
 else if ¬ (fld bs 1 8=gen∧fld bs 9 4=i∧fld bs 13 4=pages) then (25,[])
 else if ((bs.take 508).drop (17+2*inBlk pages i)).all (· ==0)=false then (5,[]) else (0,eL bs 17 (inBlk pages i))
def bblock (gen pages i:Int) (bs:List UInt8):Int×List Nat:=
 if mayB gen pages i then bread gen.toNat pages.toNat i.toNat bs else (1,[])
theorem ru {l:List UInt8} (h:l.all (· ==0)=true):l=List.replicate l.length 0:=by rw [List.eq_replicate_iff];refine ⟨rfl,λb hb=>?_⟩;have:=List.all_eq_true.1 h b hb;simpa using this
theorem AX {gen i n:Nat} {xs:List Nat} (h:xs.length≤240):unle ((blk1 gen i n xs).drop 508)=Crc.ofs ((blk1 gen i n xs).take 508):=
 iV _ (cM (by rw [aq,dt,dP];omega))
theorem vD {gen pages i:Nat} {xs:List Nat} (hg:gen<18446744073709551616) (hp:pages<4294967296) (hi:i<4294967296) (hl:xs.length=inBlk pages i) (hx:∀ v∈xs,v<65536):bread gen pages i (blk1 gen i pages xs)=(0,xs):=by
 have hn:=inBlk_le pages i;have hxl:xs.length≤240:=by omega
 have hs:=AX (gen:=gen) (i:=i) (n:=pages) hxl;have hlen:=blk1_length (gen:=gen) (i:=i) (n:=pages) hxl;have e:blk1 gen i pages xs=leb 1 66++(leb 8 gen++(leb 4 i++(leb 4 pages++(cntB xs++(List.replicate (508-(17+2*xs.length)) 0++leb 4 (Crc.ofs (fullB (fg gen i pages++cntB xs)))))))):=by unfold blk1 summed fullB;rw [aq,dt,dP];simp [fg]
 have ez:(blk1 gen i pages xs).take 508=(fg gen i pages++cntB xs)++List.replicate (508-(17+2*xs.length)) 0:=by unfold blk1 summed;rw [bG (by rw [cM (by rw [aq,dt,dP];omega)];exact am _),av (by rw [cM (by rw [aq,dt,dP];omega)];exact am _)];unfold fullB;rw [aq,dt,dP]
 have f0:fld (blk1 gen i pages xs) 0 1=66:=by rw [e,fld_at 1 _ _ (by decide)]
 have f1:fld (blk1 gen i pages xs) 1 8=gen:=by rw [e,cH 1 _ _ _ _ (by omega),fld_at 8 _ _ (by omega)]
 have f2:fld (blk1 gen i pages xs) 9 4=i:=by rw [e,cH 1 _ _ _ _ (by omega),cH 8 _ _ _ _ (by omega),fld_at 4 _ _ (by omega)]
 have f3:fld (blk1 gen i pages xs) 13 4=pages:=by rw [e,cH 1 _ _ _ _ (by omega),cH 8 _ _ _ _ (by omega),cH 4 _ _ _ _ (by omega),fld_at 4 _ _ (by omega)]
 have f4:eL (blk1 gen i pages xs) 17 (inBlk pages i)=xs:=by have:=sP (xs:=xs) (fg gen i pages) (List.replicate (508-(17+2*xs.length)) 0++leb 4 (Crc.ofs (fullB (fg gen i pages++cntB xs)))) hx;rw [dt] at this;rw [←hl];rw [show blk1 gen i pages xs=fg gen i pages++(cntB xs++(List.replicate (508-(17+2*xs.length)) 0++leb 4 (Crc.ofs (fullB (fg gen i pages++cntB xs))))) by rw [e];simp [fg]];exact this
 have f5:(((blk1 gen i pages xs).take 508).drop (17+2*inBlk pages i)).all (· ==0)=true:=by rw [ez,←hl,List.drop_append,bN (by rw [aq,dt,dP];omega),a7,List.all_eq_true];intro b hb;have:=List.eq_of_mem_replicate (List.mem_of_mem_drop hb);simp [this]
 unfold bread;rw [bg (by simp [hlen]),bg (by simp [hs]),bg (by simp [f0]),bg (by simp [f1,f2,f3]),bg (by simp [f5]),f4]
def benc (gen:Int) (cs:List Int):Int×List (List UInt8):=
 if gen<0∨1099511627776<gen then (1,[]) else if 65536<cs.length then (4,[]) else if cs.any (λc=>decide (c<0∨65536≤c))=true then (13,[])
 else (0,(List.range (nblocks cs.length)).map λi=>blk1 gen.toNat i cs.length (part (cs.map Int.toNat) i))
end Go.Proofs.YtchbedbmjiabgaaGreatDoor.Wi.Ba
