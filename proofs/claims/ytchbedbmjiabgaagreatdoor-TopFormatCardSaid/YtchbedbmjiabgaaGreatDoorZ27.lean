/- TopFormat, part 27 of the proof: TChk TBody TRange2 TBack. No condition. -/
import Derived.Test.YtchbedbmjiabgaaGreatDoorZ26
set_option linter.all false
set_option maxHeartbeats 16000000
set_option maxRecDepth 100000
namespace Go.Proofs.YtchbedbmjiabgaaGreatDoor
open Go.RowKit Go.Proofs.Tryz
theorem An (l:Nat):l≤100→∀ (n:Int) (least:Nat) (r:RG) (t:TR) {cb v gm lo nk:Nat} {m:Met} {rd:Rdr} {W0 w:World} (hrt:∀ n p,rd n=some p→RightP p) (hnw:(Lit.int .i64 n).wf=true) (hle:least≤8) (hB:Bhd lo W0 v rd cb gm w) (hck:IsCk w cb v gm m (IntKind.i64.wrap (nk:Int))) (hr:RgAt w r t),
  Calls prog 123 #[.pointer (some ⟨cb,0,none⟩),.int .i64 n,.int .i64 (l:Int),.int .i64 (least:Int),rgv r t] w (PgWP (eM rd l n least r m) cb v gm nk w):=by
   induction l with
   |zero=>intro _ n least r t cb v gm lo nk m rd W0 w hrt hnw hle hB hck hr;exact xE n least r t hrt hnw hle hB hck hr
   |succ l ih=>intro hl n least r t cb v gm lo nk m rd W0 w hrt hnw hle hB hck hr;exact xD l (by omega) n least r t hrt (λn r t nk m w h1 h2 h3 h4=>ih (by omega) n 4 r t hrt h1 (by decide) h2 h3 h4) hnw hle hB hck hr
structure TT where
 (root height items:Int)
def TT.zero (t:TT):Prop:=t.root=0∧t.height=0∧t.items=0
instance (t:TT):Decidable t.zero:=by unfold TT.zero;infer_instance
def ttv (t:TT):Value:= .agg #[.int .i64 t.root,.int .i64 t.height,.int .i64 t.items]
def fj (t:TT):Bool:=decide (t.root≠0)&&(decide (1≤t.height)&&(decide (t.height≤12)&&decide (1≤t.items)))
def yS (rd:Rdr) (t:TT):Option (Met×List PI):=eM rd (t.height-1).toNat t.root (min t.height 2).toNat allR (λ_=>false)
def ib (rd:Rdr) (t:TT):Bool:=if t.zero then true else fj t&&match yS rd t with
 |none=>false
 |some (_,out)=>decide ((out.length:Int)=t.items)
def EvAt (w:World):Prop:=w.cell? ⟨1,0,none⟩=some (.slice none 0 0)∧w.cell? ⟨1,1,none⟩=some (.slice none 0 0)∧w.cell? ⟨1,2,none⟩=some (.bool true)
theorem ct {w:World} {b o:Nat} {v:Value} (h:w.cell? ⟨b,o,none⟩=some v):b<w.heap.size:=by rcases Nat.lt_or_ge b w.heap.size with h1|h1;exact h1;unfold World.cell? at h;rw [bJ h1] at h;cases h
theorem EvAt.lt {w:World} (h:EvAt w):1<w.heap.size:=ct h.1
theorem EvAt.chg {F:Nat→Prop} {w w':World} (h:EvAt w) (hc:Chg F w w') (hF:¬ F 1):EvAt w':=
 ⟨(dr hc h.lt hF).trans h.1,(dr hc h.lt hF).trans h.2.1,(dr hc h.lt hF).trans h.2.2⟩
theorem EvAt.below {w w':World} (h:EvAt w) (hb:Below w.heap.size w w'):EvAt w':=h.chg (F:=λ_=>False) (ac hb) (λf=>f)
def ChkP (b:Bool) (w:World) (e:Ending) (w':World):Prop:=Below w.heap.size w w'∧∃ er:Int,e= .returned (.int .i64 er)∧(er=0↔b=true)
theorem jD {w w':World} {er:Int} {b:Bool} (hb:Below w.heap.size w w') (h:er≠0) (h2:b=false):ChkP b w (.returned (.int .i64 er)) w':=⟨hb,er,rfl,by subst h2;simp [h]⟩
theorem si {w w':World} {b:Bool} (hb:Below w.heap.size w w') (h2:b=true):ChkP b w (.returned (.int .i64 0)) w':=⟨hb,0,rfl,by simp [h2]⟩
theorem nY:iw (λ_=>false)=65537:=by unfold iw;show ((List.range 65537).filter λ_=>true).length=65537;rw [List.filter_eq_self.2 (λk _=>rfl),List.length_range]
theorem xP:metV (λ_=>false)=λ_=>none:=by funext k;simp [metV]
theorem made_ck {w:World} {lo v:Nat} {rd:Rdr} {o:Obj} (hv:IsVR lo w v rd):
  Bhd lo w v rd (w.heap.size+2) (w.heap.size+1) (((w.alloc o).alloc (.map #[] 0)).alloc (ji v (w.heap.size+1) 0))∧IsCk (((w.alloc o).alloc (.map #[] 0)).alloc (ji v (w.heap.size+1) 0)) (w.heap.size+2) v (w.heap.size+1) (λ_=>false) 0∧Below w.heap.size w (((w.alloc o).alloc (.map #[] 0)).alloc (ji v (w.heap.size+1) 0))∧(((w.alloc o).alloc (.map #[] 0)).alloc (ji v (w.heap.size+1) 0)).heap[w.heap.size]?=some o:=by have b1:=bY w o;have h1:=az w o;have b2:=bY (w.alloc o) (.map #[] 0);have m2:=MpI.made (w.alloc o);have b3:=bY ((w.alloc o).alloc (.map #[] 0)) (ji v (w.heap.size+1) 0);have h3:=az ((w.alloc o).alloc (.map #[] 0)) (ji v (w.heap.size+1) 0);simp only [aX] at m2 h3;have B:=b1.trans ((b2.trans (b3.mono b2.size)).mono b1.size);refine ⟨⟨hv,B,by omega,by omega⟩,⟨0,h3,?_,by rw [nY];omega⟩,B,(b3.block _ (an (rltT h1) b2.size)).trans ((b2.block _ (rltT h1)).trans h1)⟩;rw [xP];exact m2.chg (F:=λ_=>False) (ac b3) (λf=>f)
theorem check_any (t:TT) {v lo:Nat} {rd:Rdr} {w:World} (hrt:∀ n p,rd n=some p→RightP p) (hw1:(Lit.int .i64 t.root).wf=true) (hw2:(Lit.int .i64 t.height).wf=true) (hw3:(Lit.int .i64 t.items).wf=true) (hv:IsVR lo w v rd) (hE:EvAt w):
  Calls prog 88 #[.pointer (some ⟨v,0,none⟩),ttv t] w (ChkP (ib rd t) w):=by
   have ER:=Hd (bY w (.cells #[.int .i64 t.root,.int .i64 t.height,.int .i64 t.items] 72));have hi:=az w (.cells #[.int .i64 t.root,.int .i64 t.height,.int .i64 t.items] 72);obtain ⟨hb3,hk3,hB3,hr3⟩:=made_ck (o:= .cells #[.int .i64 t.root,.int .i64 t.height,.int .i64 t.items] 72) hv;have HE:=Hd hE;have B1:=Hd hrt;have hmm:=@run_makeMap prog;obtain ⟨b,hb⟩:∃ b,ib rd t=b:=⟨_,rfl⟩;rw [hb];have HB:=Hd hb;unfold ttv;have HT:=Hd (show ∀ x:TT,x=t→x=t from λ_ h=>h);obtain ⟨root,height,items⟩:=t;simp only at hw1 hw2 hw3 hi hb3 hk3 hB3 hr3 ER⊢;clear hb hE hrt hv HT;by_cases hz:root=0∧height=0∧items=0
   ·obtain ⟨rfl,rfl,rfl⟩:=hz;clear hb3 hk3 hB3 hr3 hmm;go_enter func88,ntmps88;go_wp2_with fail;go_ret;exact si ER.out (by rw [←HB.out];unfold ib;rw [bh ⟨rfl,rfl,rfl⟩])
   ·have hz2:root=0→height=0→¬ items=0:=λh1 h2 h3=>hz ⟨h1,h2,h3⟩;have EQ:=Hd (show fj ⟨root,height,items⟩=false→b=false from λhk=>by rw [←HB.out];unfold ib;rw [bg (show ¬ TT.zero ⟨root,height,items⟩ from hz),hk];rfl);have E8:=Hd (show fj ⟨root,height,items⟩=true→∀ o,yS rd ⟨root,height,items⟩=o→b=match o with|none=>false|some (_,out)=>decide ((out.length:Int)=items) from λhk o ho=>by rw [←HB.out];unfold ib;rw [bg (show ¬ TT.zero ⟨root,height,items⟩ from hz),hk,ho];rfl);clear hz;by_cases h1:root=0
    ·have HK:=Hd (show fj ⟨root,height,items⟩=false from by unfold fj;simp;omega);subst h1;by_cases h5:height=0;(focus subst h5;have h6:(items==0)=false:=by simpa using hz2 rfl rfl);rotate_left;(focus have h6:(height==0)=false:=by simpa using h5);all_goals clear hb3 hk3 hB3 hr3 hmm hz2;go_enter func88,ntmps88;go_wp2_with fail;go_ret;exact jD ER.out (by decide) (EQ.out HK.out)
    ·(have h1b:(root==0)=false:=by simp [h1]);by_cases h2:height<1
     ·have HK:=Hd (show fj ⟨root,height,items⟩=false from by unfold fj;simp;omega);clear hb3 hk3 hB3 hr3 hmm hz2;go_enter func88,ntmps88;go_wp2_with fail;go_ret;exact jD ER.out (by decide) (EQ.out HK.out)
     ·by_cases h3:12<height
      ·have HK:=Hd (show fj ⟨root,height,items⟩=false from by unfold fj;simp;omega);clear hb3 hk3 hB3 hr3 hmm hz2;go_enter func88,ntmps88;go_wp2_with fail;go_ret;exact jD ER.out (by decide) (EQ.out HK.out)
      ·by_cases h4:items<1
       ·have HK:=Hd (show fj ⟨root,height,items⟩=false from by unfold fj;simp;omega);clear hb3 hk3 hB3 hr3 hmm hz2;go_enter func88,ntmps88;go_wp2_with fail;go_ret;exact jD ER.out (by decide) (EQ.out HK.out)
       ·have HK:=Hd (show fj ⟨root,height,items⟩=true from by unfold fj;simp;omega);obtain ⟨lh,hlh⟩:∃ lh:Int,(((height-1).toNat:Nat):Int)=lh:=⟨_,rfl⟩;obtain ⟨lm,hlm⟩:∃ lm:Int,(((min height 2).toNat:Nat):Int)=lm:=⟨_,rfl⟩;(have hlw:IntKind.i64.wrap (height-1)=lh:=by rw [IntKind.wrap_i64];omega);(have hmn:(if height<2 then height else 2)=lm:=by split<;>omega);(have hmn2:(if 2<height then 2 else height)=lm:=by split<;>omega);obtain ⟨lk,hlk⟩:∃ o,eM rd (height-1).toNat root (min height 2).toNat allR (λ_=>false)=o:=⟨_,rfl⟩;have Hh:=Hd (E8.out HK.out lk hlk);have HSND:=Hd (show ∀ r,lk=some r→r.2.length≤8^12 from λr h=>by obtain ⟨mm,out⟩:=r;rw [h] at hlk;exact ao (kt B1.out hlk).2.2 (Nat.pow_le_pow_right (by decide) (by omega)));have BN:=Hd (An (nk:=0) (height-1).toNat (by omega) root (min height 2).toNat allR ⟨none,0,none,0⟩ B1.out hw1 (by omega) hb3 (by simpa [IntKind.wrap_i64] using hk3) ⟨ah _,ah _,by decide⟩);unfold rgv allR at BN;simp only [aR] at BN;rw [hlh,hlm,show eM rd (height-1).toNat root (min height 2).toNat ⟨[],[],true⟩ (λ_=>false)=lk from hlk] at BN;obtain ⟨v0,v1,v2⟩:=HE.out.below hB3;have t0:=bd _ _ 0 _ _ _ hr3;have t1:=bd _ _ 1 _ _ _ hr3;have t2:=bd _ _ 2 _ _ _ hr3;have Bi:=Hd hB3;have Bn:=Hd hr3;clear hlh hlm hlk hb3 hk3 hB3 hr3 HB EQ E8;unfold ji at*;go_enter func88,ntmps88;go_wp2_with fail;have DX:=Hd λw4 (hc:Chg (CkF (w.heap.size+1) (w.heap.size+2)) (((w.alloc (.cells #[.int .i64 root,.int .i64 height,.int .i64 items] 72)).alloc (.map #[] 0)).alloc (.cells #[.pointer (some ⟨v,0,none⟩),.map (some (w.heap.size+1)),.int .i64 0] 262)) w4)=>(show Below w.heap.size w w4 from Bi.out.trans (hc.below Bi.out.size (λk e=>by rcases e with e|e<;>omega)));cases lk with
        |none=>refine BN.out.mono ?_;rintro _ w4 ⟨hc,er,her,rfl⟩;have Be:=Hd (DX.out _ hc);clear hc t0 t1 t2 v0 v1 v2 hi;go_wp2_with fail;go_ret;exact jD Be.out her Hh.out
        |some rr=>
         obtain ⟨mm,out⟩:=rr;refine BN.out.mono ?_;rintro _ w4 ⟨hc,rfl,N,hrow, -⟩;have Be:=Hd (DX.out _ hc);have hr4:=(hc.block _ (rltT Bn.out) (λe=>by rcases e with e|e<;>omega)).trans Bn.out;have hol:=HSND.out _ rfl;simp only at hol;obtain ⟨kn,hkn⟩:∃ kn:Int,((out.length:Nat):Int)=kn:=⟨_,rfl⟩;rw [show IntKind.i64.wrap ((0+out.length:Nat):Int)=kn from by rw [IntKind.wrap_i64];omega] at hrow;have D6:=Hd (show b=decide (kn=items) from by rw [←hkn];exact Hh.out);unfold ji at hrow;have c2:=bd _ _ 2 _ _ _ hrow;have t2:=bd _ _ 2 _ _ _ hr4;clear hc hr4 hrow hol hkn t0 t1 v0 v1 v2 hi Bi Bn DX;by_cases hq:kn=items
         ·subst hq;go_wp2_with fail;go_quiet (fail);go_wp2_with fail;go_ret;exact si (Be.out.trans ((cy w4 _).mono Be.out.size)) (by rw [D6.out];simp)
         ·(have hq2:(kn==items)=false:=by simp [hq]);go_wp2_with fail;go_quiet (fail);go_wp2_with fail;go_ret;exact jD (Be.out.trans ((cy w4 _).mono Be.out.size)) (by decide) (by rw [D6.out];simp [hq])
end Go.Proofs.YtchbedbmjiabgaaGreatDoor
namespace Go.Proofs.YtchbedbmjiabgaaGreatDoor
open Go Go.RowKit Go.Proofs.Tryz
section
variable {P:Program} {ops:Array Oper} {Q:Exit→Act→World→Prop} {r n:Nat}
def eT (o:Oper):Bool:=match o.op with
 | .defer _=>false
 |_=>true
theorem qH {o:Oper} (h:eT o=true):∀ c,o.op≠ .defer c:=by intro c e;unfold eT at h;rw [e] at h;cases h
theorem qh {o:Oper} {a:Act} {w:World} {K:Act→World→Prop} (hd:eT o=true) (h:o.wp P a w K Q):o.wpIn (Fence.wide.inRound r) n P a w K Q:=by
 refine ⟨λ_ _=>trivial,?_⟩;rw [Fence.inRound_round,Oper.semAt_some r _ o (qH hd)];unfold Oper.wp at h;revert h;generalize (execOp a.eval o).run P w=res;cases res with
 |ok x w'=>
  cases x with
  |value v=>exact id
  |skip=>exact id
  |defer d=>exact id
  |enter f args=>exact λh=>⟨λh=>(by simp [Fence.wide] at h),CallsIn.inRound r (callsIn_wide.2 h)⟩
  |row row args=>intro h;refine ⟨λh=>(by simp [Fence.wide] at h),λc cs _=>?_⟩;obtain ⟨v,w2,h1,h2⟩:=h c cs;exact ⟨v,w2,h1,stepsIn_wide.2 h2⟩
  |_=>exact λh=>h.elim
 |halt x w'=>cases x<;>exact id
theorem lS (hno:¬ LetsOut Q):∀ (l:List Oper) (a:Act) (w:World),l.all eT=true→wpList P ops Q l a w→wpListIn (Fence.wide.inRound r) n P ops Q l a w
 |[],a,w,_,h=>h
 |o::l,a,w,hd,h=>by
  simp only [List.all_cons,Bool.and_eq_true] at hd;unfold wpList at h;unfold wpListIn;split
  ·rename_i hw;rw [bh hw] at h;rcases h with h|⟨-,h⟩;exact qh hd.1 (Oper.wp_mono (λa w h=>lS hno l a w hd.2 h) h);exact absurd h hno
  ·rename_i hw;rw [bg hw] at h;exact ⟨λ_ _=>trivial,lS hno l _ _ hd.2 h⟩
theorem k7 {md:Region.Mode} {l:List Oper} (hno:¬ LetsOut Q) (hd:l.all eT=true):∀ (fuel:Nat) (listed:Array Bool) (a:Act) (w:World),wpAny P md l.toArray Q fuel listed a w→wpAnyIn (Fence.wide.inRound r) n P md l.toArray Q fuel listed a w
 |0,_,_,_,h=>h
 |fuel+1,listed,a,w,h=>by
  refine ⟨h.1,λi hi=>?_⟩;have h2:=h.2 i hi;unfold wpOp at h2;unfold wpOpIn;cases ho:l.toArray[i]? with
  |none=>rw [ho] at h2;exact k7 hno hd fuel _ _ _ h2
  |some o=>
   rw [ho] at h2;simp only at h2⊢;have hdo:eT o=true:=List.all_eq_true.1 hd o (aD (by simpa using ho));split
   ·rename_i hw;rw [bh hw] at h2;rcases h2 with h2|⟨-,h2⟩;exact qh hdo (Oper.wp_mono (λa w h=>k7 hno hd fuel _ a w h) h2);exact absurd h2 hno
   ·rename_i hw;rw [bg hw] at h2;exact ⟨λ_ _=>trivial,k7 hno hd fuel _ _ _ h2⟩
theorem xJ {o:Oper} {a:Act} {w:World} {K:Act→World→Prop} (h:o.wp P a w K Q):o.wpIn Fence.wide n P a w K Q:=by
 refine ⟨λ_ _=>trivial,?_⟩;rw [show Fence.wide.round=none from rfl,Oper.semAt_none];unfold Oper.wp at h;revert h;generalize (execOp a.eval o).run P w=res;cases res with
 |ok x w'=>
  cases x with
  |value v=>exact id
  |skip=>exact id
  |defer d=>exact id
  |enter f args=>exact λh=>⟨λh=>(by simp [Fence.wide] at h),callsIn_wide.2 h⟩
  |row row args=>intro h;refine ⟨λh=>(by simp [Fence.wide] at h),λc cs _=>?_⟩;obtain ⟨v,w2,h1,h2⟩:=h c cs;exact ⟨v,w2,h1,stepsIn_wide.2 h2⟩
  |_=>exact λh=>h.elim
 |halt x w'=>cases x<;>exact id
theorem gU (hno:¬ LetsOut Q):∀ (l:List Oper) (a:Act) (w:World),wpList P ops Q l a w→wpListIn Fence.wide n P ops Q l a w
 |[],a,w,h=>h
 |o::l,a,w,h=>by
  unfold wpList at h;unfold wpListIn;split
  ·rename_i hw;rw [bh hw] at h;rcases h with h|⟨-,h⟩;exact xJ (Oper.wp_mono (λa w h=>gU hno l a w h) h);exact absurd h hno
  ·rename_i hw;rw [bg hw] at h;exact ⟨λ_ _=>trivial,gU hno l _ _ h⟩
theorem uO {o:Oper} {l:List Oper} {a:Act} {w:World} {x y:Operand} {t:TypeId} (ho:o.op= .call {callee:= .builtin .append,args:=#[x,y],argTypes:=#[t,t]}) (hno:¬ LetsOut Q) (h:wpList P ops Q (o::l) a w):wpListIn Fence.wide n P ops Q (o::l) a w:=gU hno _ _ _ h
theorem lw {o:Oper} {l:List Oper} {a:Act} {w:World} {t:TypeId} (ho:o.op= .alloc t) (hno:¬ LetsOut Q) (h:wpList P ops Q (o::l) a w):wpListIn Fence.wide n P ops Q (o::l) a w:=gU hno _ _ _ h
theorem cI {id:Nat} {l:List Oper} {a:Act} {w:World} (hno:¬ LetsOut Q) (hd:l.all eT=true) (h:wpList P l.toArray Q l a w):(Code.region id l.toArray false).wpIn (Fence.wide.inRound r) n P Q a w:=
 wpIn_region_lit (lS hno l a w hd h)
theorem oH {id:Nat} {a:Act} {w:World} {l:List Oper} (S:World→Prop) (m:Nat) (hm:P.follows .mixedOrders=true) (hB:nf .any l.toArray m=true) (hno:¬ LetsOut Q) (hd:l.all eT=true)
  (h:At P .any l.toArray Q S m l.length (Array.replicate l.length false) a w.drew):(Code.region id l.toArray true).wpIn (Fence.wide.inRound r) n P Q a w:=by refine wpIn_region_any hm ?_;(have hz:l.toArray.size=l.length:=by simp);rw [hz];refine k7 hno hd _ _ _ _ (kj (n:=m) (S:=S) _ _ _ _ (h.go hB ⟨by simp,λj oj _ hl=>(by rw [getD_replicate_false] at hl;cases hl),λt _ ht=>getD_in (by simpa using ht) (getD_replicate_false _ _)⟩))
end
end Go.Proofs.YtchbedbmjiabgaaGreatDoor
namespace Go.Proofs.YtchbedbmjiabgaaGreatDoor
open Go.RowKit Go.Proofs.Tryz
structure Stay (B:Nat) (S:Nat→Prop) (w w':World):Prop where
 os:w'.os=w.os
 tape:w'.tape=w.tape
 output:w'.output=w.output
 size:w.heap.size≤w'.heap.size
 same:∀ (k:Nat) (o:Obj),w.heap[k]?=some o→(k<B∨S k)→w'.heap[k]?=some o
theorem Stay.of_below {B:Nat} {S:Nat→Prop} {w w':World} (h:Below w.heap.size w w'):Stay B S w w':=
 ⟨h.os,h.tape,h.output,h.size,λk o hk _=>(h.block k (bj.1 hk).1).trans hk⟩
theorem Stay.of_chg {F:Nat→Prop} {B:Nat} {S:Nat→Prop} {w w':World} (h:Chg F w w') (hB:∀ k,F k→B≤k∧¬ S k):Stay B S w w':=
 ⟨h.os,h.tape,h.output,h.size,λk o hk hs=>(h.block k (bj.1 hk).1 (λf=>by have:=hB k f;rcases hs with hs|hs;omega;exact this.2 hs)).trans hk⟩
theorem Stay.refl (B:Nat) (S:Nat→Prop) (w:World):Stay B S w w:=⟨rfl,rfl,rfl,am _,λ_ _ h _=>h⟩
theorem Stay.trans {B:Nat} {S:Nat→Prop} {a b c:World} (h:Stay B S a b) (k:Stay B S b c):Stay B S a c:=⟨k.os.trans h.os,k.tape.trans h.tape,k.output.trans h.output,ao h.size k.size,λi o hi hB=>k.same i o (h.same i o hi hB) hB⟩
theorem Stay.mono {B C:Nat} {S T:Nat→Prop} {a b:World} (h:Stay C T a b) (hB:B≤C) (hS:∀ k,S k→T k):Stay B S a b:=⟨h.os,h.tape,h.output,h.size,λi o hi ho=>h.same i o hi (ho.imp (λe=>an e hB) (hS i))⟩
theorem Stay.put {B:Nat} {S:Nat→Prop} {w:World} {l:Nat} (o':Obj) (hB:B≤l) (hS:¬ S l):Stay B S w (w.putObj l o'):=by have g:=grownBy_putObj' w l o';refine ⟨g.os,g.tape,g.output,g.size,λk x hk hx=>(g.block k (bj.1 hk).1 (λe=>?_)).trans hk⟩;cases e;rcases hx with hx|hx;omega;exact hS hx
theorem Stay.below {B n:Nat} {S:Nat→Prop} {a w w':World} (h:Stay B S w w') (hb:Below n a w) (hn:n≤B) (ha:n≤a.heap.size):Below n a w':=
 ⟨h.os.trans hb.os,h.tape.trans hb.tape,h.output.trans hb.output,ao hb.size h.size,λk hk=>by
   obtain ⟨o,ho⟩:∃ o,a.heap[k]?=some o:=⟨_,Array.getElem?_eq_getElem (by omega)⟩
   rw [ho]
   exact h.same k o ((hb.block k hk).trans ho) (.inl (an hk hn))⟩
theorem Stay.or {B:Nat} {S:Nat→Prop} {w w':World} (h:Stay B S w w') {E:Elt} {oa:Option Addr} {cap n:Nat} {cs:List Value} (ho:OR E w oa cap n cs) (hs:∀ k,blk oa=some k→k<B∨S k):OR E w' oa cap n cs:=by obtain ⟨h1,h2⟩:=ho.form;rcases h2 with ⟨rfl,rfl,rfl,rfl⟩|⟨g,rfl,hg,h3,h4,rest,h5,h6⟩;exact ak E w';exact OR.mk h1 h3 h4 (h.same g _ h5 (hs g rfl)) h6
structure Own where
 (s t:Nat→Prop)
def Own.with (S:Own) (T:Nat→Prop):Own:=⟨λk=>S.s k∨T k,λk=>S.t k∨T k⟩
structure Grow (G:Nat→Prop) (S S':Own) (w w':World):Prop where
 old:∀ k,S'.s k→S.s k∨w.heap.size≤k
 oldT:∀ k,S'.t k→S.t k∨w.heap.size≤k∨G k
 lt:∀ k,S'.t k→k<w'.heap.size
 sub:∀ k,S'.s k→S'.t k
theorem Grow.refl {G:Nat→Prop} {S:Own} {w w':World} (h:∀ k,S.t k→k<w.heap.size) (hs:w.heap.size≤w'.heap.size) (hsub:∀ k,S.s k→S.t k):Grow G S S w w':=⟨λ_ h=> .inl h,λ_ h=> .inl h,λk hk=>an (h k hk) hs,hsub⟩
def Iter2 {α:Type} (gf:Nat) (lb:Array Value) (Enc: α→Array Value→World→Prop) (Gv: α→Array Value→Nat→Prop) (S0:Nat→Prop) (xs:List α) (w:World):Prop:=
 ∀ (l:Nat) (J:Nat→Own→World→Prop) (Jx:Own→World→Prop) (T0:Nat→Prop) (W:World),Below w.heap.size w W→(∀ k,T0 k→k<W.heap.size)→(∀ k,S0 k→T0 k)→
  (∀ j S A B,J j S A→Stay W.heap.size S.t A B→J j S B)→(∀ S A B,Jx S A→Stay W.heap.size S.t A B→Jx S B)→
  (∀ j x args S W1,xs[j]?=some x→Enc x args W1→(∀ k,Gv x args k→W.heap.size≤k∧k<W1.heap.size)→J j S W1→(∀ k,S.t k→k<W1.heap.size)→(∀ k,S.s k→S.t k)→
    YieldAt Fence.wide 0 prog l args W1 λe W'=>(e= .returned (.bool true)∧(∃ S',J (j+1) S' W'∧Grow (Gv x args) S S' W1 W')∧Chg S.s W1 W')∨(e= .returned (.bool false)∧(∃ S',Jx S' W'∧Grow (Gv x args) S S' W1 W')∧Chg S.s W1 W'))→
  J 0 ⟨S0,T0⟩ W→Calls prog gf (#[.func (.yield l) #[] #[]]++lb) W λe W'=>(∃ v,e= .returned v)∧((∃ S,J xs.length S W')∨∃ S,Jx S W')
theorem Iter2.later {α:Type} {gf:Nat} {lb:Array Value} {Enc: α→Array Value→World→Prop} {Gv: α→Array Value→Nat→Prop} {S0:Nat→Prop} {xs:List α} {w w':World} (h:Iter2 gf lb Enc Gv S0 xs w) (hb:Below w.heap.size w w'):Iter2 gf lb Enc Gv S0 xs w':=
 λl J Jx T0 W hW=>h l J Jx T0 W (hb.trans (hW.mono hb.size))
def pX (G:Nat→Prop) (S:Own) (I:Nat→Own→World→Prop) (Ix:Code→Own→World→Prop) (j:Nat) (W:World):Exit→Act→World→Prop
 | .normal,_,W'=>Chg S.s W W'∧∃ S',Grow G S S' W W'∧I j S' W'
 | .ret,_,W'=>Chg S.s W W'∧∃ S',Grow G S S' W W'∧Ix .ret S' W'
 | .exit id,_,W'=>Chg S.s W W'∧∃ S',Grow G S S' W W'∧Ix (.exit id) S' W'
 | .goto t,_,W'=>Chg S.s W W'∧∃ S',Grow G S S' W W'∧Ix (.goto t) S' W'
 | .panic _,_,_=>False
 | .outgrown,_,_=>False
theorem jG {α:Type} {g:Operand} {ps:Array Tmp} {assign body:Code} {Q:Exit→Act→World→Prop} {a:Act} {w:World}
  {gf:Nat} {lb:Array Value} (hg:a.eval g= .func (.func gf) #[] lb) (eg:∀ args w,(callFunc gf args).run prog w= .ok (.enter gf args) w)
  {Enc: α→Array Value→World→Prop} {Gv: α→Array Value→Nat→Prop} (Fb Ft:Nat→Prop) (hFt:∀ k,Ft k→k<w.heap.size) (hFb:∀ k,Fb k→Ft k) (xs:List α) (hseq:Iter2 gf lb Enc Gv (λk=>Fb k∨Own2 w.heap.size k) xs w) (hps:∀ x args w,Enc x args w→args.size=ps.size)
  (I:Nat→Own→World→Prop) (Ix:Code→Own→World→Prop) (hI:∀ j S A A',I j S A→Stay w.heap.size S.t A A'→I j S A') (hIx:∀ c S A A',Ix c S A→Stay w.heap.size S.t A A'→Ix c S A') (h0:I 0 ⟨Fb,Ft⟩ w)
  (Ax:Act→ α→Array Value→Act→World→Prop) (hAx:∀ x args a' A A',Ax a x args a' A→Turn w.heap.size A A'→Ax a x args a' A')
  (hassign:∀ (l j:Nat) (x: α) (args:Array Value) (S:Own) (W:World) (K:Act→World→Prop),xs[j]?=some x→Enc x args W→(∀ k,Gv x args k→w.heap.size+2≤k∧k<W.heap.size)→I j S W→(∀ k,S.t k→k<W.heap.size)→w.heap.size+2≤W.heap.size→(∀ a' W',Below W.heap.size W W'→Ax a x args a' W'→K a' W')→
    assign.wpIn (Fence.wide.inRound l) 0 prog (Exit.then K (λ_ _ _=>False)) {tmps:=(ps.zip args).foldl (λt (p,v)=>t.setIfInBounds p v) a.tmps,defers:=[]} W)
  (hbody:∀ (l j:Nat) (x: α) (args:Array Value) (S:Own) (a':Act) (W:World),xs[j]?=some x→(∀ k,Gv x args k→w.heap.size+2≤k∧k<W.heap.size)→I j S W→(∀ k,S.t k→k<W.heap.size)→(∀ k,S.s k→S.t k)→w.heap.size+2≤W.heap.size→Ax a x args a' W→body.wpIn (Fence.wide.inRound l) 0 prog (pX (Gv x args) S I Ix (j+1) W) a' W)
  (hdone:∀ (S:Own) (W:World),I xs.length S W→W.heap[w.heap.size]?=some (.deferred (some []))→(∀ k,S.t k→¬ Own2 w.heap.size k∧k<W.heap.size)→Q .normal {a with defers:={target:= .collected w.heap.size,args:=#[]}::a.defers} W)
  (hstop:∀ (c:Code) (S:Own) (W:World),Ix c S W→W.heap[w.heap.size]?=some (.deferred (some []))→(∀ k,S.t k→¬ Own2 w.heap.size k∧k<W.heap.size)→c.wpIn Fence.wide 0 prog Q {a with defers:={target:= .collected w.heap.size,args:=#[]}::a.defers} W):
  (Code.rangeFunc g ps assign body).wpIn Fence.wide 0 prog Q a w:=by
   refine wpIn_rangeFunc ?_;intro fn hfn;obtain ⟨rec,hrec⟩:∃ rec:LoopState→Option Code→Loop,rec=λst pe=>{state:=st,pending:=pe,fn,tmps:=a.tmps,params:=ps,assign,body,defers:=w.heap.size}:=⟨_,rfl⟩;obtain ⟨W1,hW1⟩:∃ W1,(w.alloc (.deferred (some []))).alloc (.loop (rec .ready none))=W1:=⟨_,rfl⟩;(have hL1:W1.heap[w.heap.size+1]?=some (.loop (rec .ready none)):=by rw [←hW1];have:=World.alloc_heap_new (w.alloc (.deferred (some []))) (.loop (rec .ready none));rwa [aX] at this);(have hK1:W1.heap[w.heap.size]?=some (.deferred (some [])):=by rw [←hW1];exact (Below.heap_alloc _ _ _ (by simp)).trans (World.alloc_heap_new w _));(have hB1:Below w.heap.size w W1:=by rw [←hW1];exact ((aA _ w).alloc (am _) _).alloc (by simp) _);(have hS1:W1.heap.size=w.heap.size+2:=by rw [←hW1];simp);have hI1:I 0 ⟨Fb,Ft⟩ W1:=hI _ _ _ _ h0 (Stay.of_below hB1)
   refine ⟨w.heap.size+1,[{target:= .collected w.heap.size,args:=#[]}],W1,{target:= .fn (.func gf) lb,args:=#[.func (.yield (w.heap.size+1)) #[] #[]]},W1,gf,
    #[.func (.yield (w.heap.size+1)) #[] #[]]++lb,W1,?_,?_,?_,?_,λh=>by simp [Fence.wide] at h,?_⟩
   rw [←hW1,hrec];exact run_enterLoop_outer _ _ _ _ _;simp only [resolve,hg];simp [go_sem];intro f' _;trivial;simp [invoke,go_sem,eg]
   ·refine (callsIn_wide.2 (hseq (w.heap.size+1)
      (λj T W=>∃ S:Own,T=S.with (Own2 w.heap.size)∧I j S W∧(∀ k,S.t k→k<W.heap.size)∧(∀ k,S.t k→¬ Own2 w.heap.size k)∧(∀ k,S.s k→S.t k)∧W.heap[w.heap.size+1]?=some (.loop (rec .ready none))∧W.heap[w.heap.size]?=some (.deferred (some [])))
      (λT W=>∃ S:Own,T=S.with (Own2 w.heap.size)∧∃ c,Ix c S W∧(∀ k,S.t k→k<W.heap.size)∧(∀ k,S.t k→¬ Own2 w.heap.size k)∧(∀ k,S.s k→S.t k)∧W.heap[w.heap.size+1]?=some (.loop (rec .done (some c)))∧W.heap[w.heap.size]?=some (.deferred (some [])))
      (λk=>Ft k∨Own2 w.heap.size k) W1 hB1 ?_ (λk hk=>hk.imp (hFb k) id) ?_ ?_ ?_ ⟨⟨Fb,Ft⟩,rfl,hI1,λk hk=>by have:=hFt k hk;omega,λk hk h=>by have:=hFt k hk;rcases h with h|h<;>omega,hFb,hL1,hK1⟩)).mono ?_
    rintro k (h|h|h);have:=hFt k h;omega;omega;omega;rintro j T A B ⟨S,rfl,h1,h4,h5,h6,h2,h3⟩ hb;exact ⟨S,rfl,hI _ _ _ _ h1 (hb.mono (by omega) (λk hk=> .inl hk)),λk hk=>an (h4 k hk) hb.size,h5,h6,hb.same _ _ h2 (.inl (by omega)),hb.same _ _ h3 (.inl (by omega))⟩;rintro T A B ⟨S,rfl,c,h1,h4,h5,h6,h2,h3⟩ hb;exact ⟨S,rfl,c,hIx _ _ _ _ h1 (hb.mono (by omega) (λk hk=> .inl hk)),λk hk=>an (h4 k hk) hb.size,h5,h6,hb.same _ _ h2 (.inl (by omega)),hb.same _ _ h3 (.inl (by omega))⟩
    ·
     rintro j x args T W hx hen hgv ⟨S,rfl,hi,hlt0,hno,hsub,hl,hk⟩- -
     have hlt:w.heap.size+1<W.heap.size:=(bj.1 hl).1
     have hgw:∀ k,Gv x args k→w.heap.size+2≤k∧k<W.heap.size:=λk hk=>by have:=hgv k hk;omega
     have hy:=run_yield (P:=prog) (args:=args) hl (by rw [hrec];exact hps x args W hen)
     rw [hrec] at hy
     refine ⟨fn,_,assign,body,hy,roundIn_of_wpIn hfn (hassign _ j x args S W _ hx hen hgw hi hlt0 hlt ?_)⟩
     clear hy
     intro a' Wa hba hax
     have hia:I j S Wa:=hI _ _ _ _ hi (Stay.of_below hba)
     replace hl:=(hba.block _ (bj.1 hl).1).trans hl
     replace hk:=(hba.block _ (bj.1 hk).1).trans hk
     have hlt':w.heap.size+1<Wa.heap.size:=(bj.1 hl).1
     refine ⟨_,run_beginRound hl (by rw [hrec]),?_⟩
     obtain ⟨W2,hW2⟩:∃ W2,Wa.putObj (w.heap.size+1) (.loop {rec .ready none with state:= .busy})=W2:=⟨_,rfl⟩
     have hl2:W2.heap[w.heap.size+1]?=some (.loop {rec .ready none with state:= .busy}):=by rw [←hW2];exact World.putObj_heap_same hlt'
     have hk2:W2.heap[w.heap.size]?=some (.deferred (some [])):=by rw [←hW2];exact (World.putObj_heap_other (by omega)).trans hk
     have hc2:Chg (λk=>k=w.heap.size+1) Wa W2:=by rw [←hW2];exact fM _
     have hu2:Turn w.heap.size Wa W2:=by rw [←hW2];exact Turn.put _ hl rfl (by omega)
     have ht2:Stay w.heap.size S.t Wa W2:=by rw [←hW2];exact Stay.put _ (by omega) (λh=>hno _ h (.inr rfl))
     have hsz2:W.heap.size≤W2.heap.size:=ao hba.size hc2.size
     have hlt2:∀ k,S.t k→k<W2.heap.size:=λk hk=>an (hlt0 k hk) hsz2
     rw [hW2]
     refine wpIn_mono (hbody _ j x args S a' _ hx (λk hk=>⟨(hgw k hk).1,an (hgw k hk).2 hsz2⟩) (hI _ _ _ _ hia ht2) hlt2 hsub (by omega) (hAx _ _ _ _ _ hax hu2)) ?_
     have hno1:∀ k,S.s k→¬ Own2 w.heap.size k:=λk h=>hno k (hsub k h)
     have fin:∀ (jump:Option Code) (W3:World),Chg S.s W2 W3→
       (Instr.endRound (w.heap.size+1) jump).run prog W3= .ok (.bool jump.isNone) (W3.putObj (w.heap.size+1) (.loop (rec (if jump.isNone then .ready else .done) jump)))∧
       (W3.putObj (w.heap.size+1) (.loop (rec (if jump.isNone then .ready else .done) jump))).heap[w.heap.size+1]?=some (.loop (rec (if jump.isNone then .ready else .done) jump))∧
       (W3.putObj (w.heap.size+1) (.loop (rec (if jump.isNone then .ready else .done) jump))).heap[w.heap.size]?=some (.deferred (some []))∧
       Chg (Own2 w.heap.size) W3 (W3.putObj (w.heap.size+1) (.loop (rec (if jump.isNone then .ready else .done) jump))):=λjump W3 hk3=>by
      have hl3:=(hk3.block _ (bj.1 hl2).1 (λh=>hno1 _ h (.inr rfl))).trans hl2
      have hk4:=(hk3.block _ (bj.1 hk2).1 (λh=>hno1 _ h (.inl rfl))).trans hk2
      have:=run_endRound (P:=prog) jump hl3
      rw [hrec] at this⊢
      exact ⟨this,World.putObj_heap_same (bj.1 hl3).1,(World.putObj_heap_other (by omega)).trans hk4,(fM _).mono (λi _ e=> .inr e)⟩
     have hall:∀ {W3 W4:World},Chg S.s W2 W3→Chg (Own2 w.heap.size) W3 W4→Chg (S.with (Own2 w.heap.size)).s W W4:=λhk3 hc4=>by
      have e1:Chg (S.with (Own2 w.heap.size)).s W W2:=(ac hba (F:=(S.with (Own2 w.heap.size)).s)).trans hc2 (λ_ _ h=> .inr (.inr h))
      exact (e1.trans hk3 (λ_ _ h=> .inl h)).trans hc4 (λ_ _ h=> .inr h)
     have hno':∀ {S':Own} {W3:World},Grow (Gv x args) S S' W2 W3→∀ k,S'.t k→¬ Own2 w.heap.size k:=λhg k hk h=>by
      rcases hg.oldT k hk with h2|h2|h2
      · exact hno k h2 h
      · rcases h with h|h<;>omega
      · have:=hgw k h2
        rcases h with h|h<;>omega
     have hgr:∀ {S':Own} {W3 W4:World},Grow (Gv x args) S S' W2 W3→W3.heap.size≤W4.heap.size→W2.heap.size≤W3.heap.size→Grow (Gv x args) (S.with (Own2 w.heap.size)) (S'.with (Own2 w.heap.size)) W W4:=λhg h4 h3=>by
      refine ⟨λk hk=>?_,λk hk=>?_,λk hk=>?_,λk hk=>hk.imp (hg.sub k) id⟩
      · rcases hk with hk|hk
        · rcases hg.old k hk with h|h
          · exact .inl (.inl h)
          · exact .inr (ao hsz2 h)
        · exact .inl (.inr hk)
      · rcases hk with hk|hk
        · rcases hg.oldT k hk with h|h|h
          · exact .inl (.inl h)
          · exact .inr (.inl (ao hsz2 h))
          · exact .inr (.inr h)
        · exact .inl (.inr hk)
      · rcases hk with hk|hk|hk
        · exact an (hg.lt k hk) h4
        · omega
        · omega
     have hst:∀ {S':Own} {W3 W4:World},Grow (Gv x args) S S' W2 W3→Chg (Own2 w.heap.size) W3 W4→Stay w.heap.size S'.t W3 W4:=λhg hc=>Stay.of_chg hc (λk hk=>⟨by rcases hk with hk|hk<;>omega,λh=>hno' hg k h hk⟩)
     rintro e a3 W3 hp
     cases e with
     |normal=>
      obtain ⟨hk3,S',hg,hi3⟩:=hp
      obtain ⟨hr,hl4,hk4,hc4⟩:=fin none W3 hk3
      exact ⟨_,_,hr,.inl ⟨rfl,⟨_,⟨S',rfl,hI _ _ _ _ hi3 (hst hg hc4),λk hk=>an (hg.lt k hk) hc4.size,hno' hg,hg.sub,hl4,hk4⟩,hgr hg hc4.size hk3.size⟩,hall hk3 hc4⟩⟩
     |ret=>
      obtain ⟨hk3,S',hg,hi3⟩:=hp
      obtain ⟨hr,hl4,hk4,hc4⟩:=fin (some .ret) W3 hk3
      exact ⟨_,_,hr,.inr ⟨rfl,⟨_,⟨S',rfl,.ret,hIx _ _ _ _ hi3 (hst hg hc4),λk hk=>an (hg.lt k hk) hc4.size,hno' hg,hg.sub,hl4,hk4⟩,hgr hg hc4.size hk3.size⟩,hall hk3 hc4⟩⟩
     |exit id=>
      obtain ⟨hk3,S',hg,hi3⟩:=hp
      obtain ⟨hr,hl4,hk4,hc4⟩:=fin (some (.exit id)) W3 hk3
      exact ⟨_,_,hr,.inr ⟨rfl,⟨_,⟨S',rfl,.exit id,hIx _ _ _ _ hi3 (hst hg hc4),λk hk=>an (hg.lt k hk) hc4.size,hno' hg,hg.sub,hl4,hk4⟩,hgr hg hc4.size hk3.size⟩,hall hk3 hc4⟩⟩
     |goto t=>
      obtain ⟨hk3,S',hg,hi3⟩:=hp
      obtain ⟨hr,hl4,hk4,hc4⟩:=fin (some (.goto t)) W3 hk3
      exact ⟨_,_,hr,.inr ⟨rfl,⟨_,⟨S',rfl,.goto t,hIx _ _ _ _ hi3 (hst hg hc4),λk hk=>an (hg.lt k hk) hc4.size,hno' hg,hg.sub,hl4,hk4⟩,hgr hg hc4.size hk3.size⟩,hall hk3 hc4⟩⟩
     |panic ch=>exact hp.elim
     |outgrown=>exact hp.elim
    ·
     rintro e W2 ⟨⟨v,rfl⟩,(⟨T,S,rfl,hi,hlt0,hno,hsub,hl,hk⟩|⟨T,S,rfl,c,hi,hlt0,hno,hsub,hl,hk⟩)⟩
     · exact ⟨none,_,by have:=run_endLoop (P:=prog) hl (by rw [hrec];simp);rw [hrec] at this;exact this,hdone S _ (hI _ _ _ _ hi (Stay.put _ (by omega) (λh=>hno _ h (.inr rfl)))) ((World.putObj_heap_other (by omega)).trans hk) (λk h=>⟨hno k h,an (hlt0 k h) (fM _).size⟩)⟩
     · exact ⟨some c,_,by have:=run_endLoop (P:=prog) hl (by rw [hrec];simp);rw [hrec] at this;exact this,hstop c S _ (hIx _ _ _ _ hi (Stay.put _ (by omega) (λh=>hno _ h (.inr rfl)))) ((World.putObj_heap_other (by omega)).trans hk) (λk h=>⟨hno k h,an (hlt0 k h) (fM _).size⟩)⟩
end Go.Proofs.YtchbedbmjiabgaaGreatDoor
namespace Go.Proofs.YtchbedbmjiabgaaGreatDoor
open Go.RowKit Go.Proofs.Tryz
attribute [local go_sem] Oper.semAt_some
def jk (zs:List (PI×TA)):List ((PI×TA)×Nat):=zs.zipIdx.reverse
theorem pT {zs:List (PI×TA)} {j:Nat} (h:j<zs.length):∃ z,zs[zs.length-1-j]?=some z∧(jk zs)[j]?=some (z,zs.length-1-j):=by
 have h2:zs.length-1-j<zs.length:=by omega
 refine ⟨_,ap h2,?_⟩;unfold jk;rw [List.getElem?_reverse (by rw [List.length_zipIdx];exact h),List.length_zipIdx,List.getElem?_zipIdx,ap h2];simp
theorem gq (zs:List (PI×TA)):(jk zs).length=zs.length:=by unfold jk;rw [List.length_reverse,List.length_zipIdx]
def encB (x:(PI×TA)×Nat) (args:Array Value) (_:World):Prop:=args=#[.int .i64 (x.2:Int),.agg (itc x.1.1 x.1.2.ka x.1.2.kc x.1.2.va x.1.2.vc)]
def RelBk (J:Nat→Own→World→Prop) (b1:Nat) (ia:Option Addr) (il ic:Nat) (zs:List (PI×TA)) (v:Value) (wr:World):Prop:=
 ∃ (j:Nat) (S:Own),j≤il∧v= .int .i64 ((il:Int)-1-j)∧J j S wr∧(∀ k,S.t k→k<wr.heap.size)∧(∀ k,S.s k→S.t k)∧¬ S.s b1∧(∀ k,blk ia=some k→¬ S.s k)∧wr.cell? ⟨b1,0,none⟩=some (.slice ia il ic)∧OR eIt wr ia ic il (cZ zs)
theorem oR {Fb:Nat→Prop} {b1 il ic:Nat} {ia:Option Addr} {zs:List (PI×TA)} {w:World} (hl:zs.length=il) (h8:il≤1000) (hc:w.cell? ⟨b1,0,none⟩=some (.slice ia il ic)) (hO:OR eIt w ia ic il (cZ zs)) (hb1:¬ Fb b1) (hia:∀ k,blk ia=some k→¬ Fb k):
  Iter2 187 #[.pointer (some ⟨b1,0,none⟩)] encB (λ_ _ _=>False) Fb (jk zs) w:=by
   intro l J Jx T0 W hW hFb hsub hJ hJx hY h0;have HFB:=Hd hFb;have D9:=Hd hsub;have HC:=Hd ((cv hW (ct hc)).trans hc);have HO:=Hd (hO.chg (F:=λ_=>False) (ac hW) (λ_ _ f=>f));have Bh:=Hd hb1;have HIA:=Hd hia;have HY:=Hd hY;have HJ:=Hd hJ;have HJX:=Hd hJx;have H0:=Hd h0;have HL:=Hd hl;have hcc:=HC.out;clear hc hO hW hY hJ hJx h0 hFb hb1 hia hl hsub;refine (callsIn_wide (n:=0)).1 (callsIn_of_wp func187 rfl trivial ?_ rfl);simp only [ntmps187,bw,aG,aR,Nat.reduceAdd,Nat.reduceSub,Array.replicate_succ,Array.replicate_zero,List.push_toArray,List.append_toArray,a7,aZ];gi_wp2_with fail;gi_loopw [3] (λv wr=>RelBk J b1 ia il ic zs v wr) (λv _=>(intOf v+1).toNat);case atStart=>exact ⟨0,⟨Fb,T0⟩,aV _,by simp,H0.out,HFB.out,D9.out,Bh.out,HIA.out,HC.out,HO.out⟩
   case round=>
    obtain ⟨j,S,hj,rfl,hJj,hS1,hS0,hS2,hS3,hc,hO⟩:=hrel;by_cases hji:j<il
    ·obtain ⟨⟨x,tx⟩,hz,hbz⟩:=pT (zs:=zs) (j:=j) (by rw [HL.out];exact hji);rw [HL.out] at hz hbz;obtain ⟨q,hq⟩:∃ q,il-1-j=q:=⟨_,rfl⟩;rw [hq] at hz hbz;obtain ⟨g,rfl,c0, -⟩:=hO.cell (cD hz 0 _ rfl);obtain ⟨g1,e1,c1, -⟩:=hO.cell (cD hz 1 _ rfl);obtain ⟨g2,e2,c2, -⟩:=hO.cell (cD hz 2 _ rfl);obtain ⟨g3,e3,c3, -⟩:=hO.cell (cD hz 3 _ rfl);cases e1;cases e2;cases e3;rw [show (il:Int)-1-j=(q:Int) by omega];simp only [dD,Nat.add_zero] at c0 c1 c2 c3;(have hql:q<il:=by omega);have HQ:=Hd hq;obtain ⟨fn,tmps,assign,body,hy,hR⟩:=HY.out j _ _ S wr hbz rfl (λ_ h=>h.elim) hJj hS1 hS0;unfold itc at hy;dsimp only at hy;have hcw:=hc;clear hz hbz hJj hq;gi_wp2_with fail;refine ⟨rfl,hR.mono ?_⟩;rintro e W4 (⟨rfl,⟨S2,hJ4,hg⟩,hk4⟩|⟨rfl,⟨S2,hJ4,hg⟩,hk4⟩)
     ·have Bp:=Hd (show RelBk J b1 (some ⟨g,0,none⟩) il ic zs (.int .i64 ((q:Int)-1)) W4 from ⟨j+1,S2,hji,by congr 1;have:=HQ.out;omega,hJ4,hg.lt,hg.sub,λh=>by rcases hg.old _ h with h|h;exact hS2 h;have:=ct hcw;omega,λk e h=>by rcases hg.old _ h with h|h;exact hS3 k e h;have:=hO.lt k e;omega,(dr hk4 (ct hcw) hS2).trans hcw,hO.chg hk4 hS3⟩);clear hJ4 hk4 hO hcw hc c0 c1 c2 c3 hy hR hg hS1 hS2 hS3 hS0;gi_wp2_with fail;go_roundw;(case rel=>exact Bp.out);case measure=>simp only [intOf];omega
     ·have HE:=Hd hJ4;clear hJ4 hk4 hO hcw hc c0 c1 c2 c3 hy hR hg hS1 hS2 hS3 hS0;gi_wp2_with fail;refine bodyPost_ret (results_none rfl _ _ _) rfl ?_;exact ⟨⟨_,rfl⟩,.inr ⟨_,HE.out⟩⟩
    ·(obtain rfl:j=il:=by omega);have HE:=Hd (show J (jk zs).length S wr from by rw [gq,HL.out];exact hJj);clear hJj hc hO hS1 hS2 hS3 hS0;rw [show (j:Int)-1-j= -1 by omega];gi_wp2_with fail;go_end0;exact ⟨⟨_,rfl⟩,.inl ⟨_,HE.out⟩⟩
theorem qQ {ia:Option Addr} {il ic:Nat} (w:World):Calls prog 170 #[.slice ia il ic] w λe w'=>e= .returned (.func (.func 187) #[] #[.pointer (some ⟨w.heap.size,0,none⟩)])∧w'=w.alloc (.cells #[.slice ia il ic] 191):=by go_enter func170,ntmps170;go_wp2_with fail;go_ret;exact ⟨by simp,rfl⟩
end Go.Proofs.YtchbedbmjiabgaaGreatDoor
