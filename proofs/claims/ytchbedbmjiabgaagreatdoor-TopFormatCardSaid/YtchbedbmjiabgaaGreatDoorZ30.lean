/- TopFormat, part 30 of the proof: HeldX TScan TTold TList. No condition. -/
import Derived.Test.YtchbedbmjiabgaaGreatDoorZ29
set_option linter.all false
set_option maxHeartbeats 16000000
set_option maxRecDepth 100000
namespace Go.Proofs.YtchbedbmjiabgaaGreatDoor
open Go Go.Proofs.Tryz
section
variable {F:Fence} {m:Nat} {P:Program} {ops:Array Oper} {Q:Exit→Act→World→Prop} {md:Region.Mode} {S:World→Prop} {n:Nat}
def ke (F:Fence) (m:Nat) (P:Program) (md:Region.Mode) (ops:Array Oper) (Q:Exit→Act→World→Prop) (S:World→Prop) (n:Nat):Nat→Array Bool→Act→World→Prop
 |0,listed,a,w=>Region.ready md ops listed=[]∧Q .normal a w
 |fuel+1,listed,a,w=>
  (Region.ready md ops listed=[]→Q .normal a w)∧
  ∀ i∈Region.ready md ops listed,(i<n→wpOp P ops Q i (λa' w'=>S w'∧ke F m P md ops Q S n fuel (listed.setIfInBounds i true) a' w') a w)∧
   (n≤i→wpOpIn F m P ops Q i (ke F m P md ops Q S n fuel (listed.setIfInBounds i true)) a w)
theorem Aq {r i:Nat} {l:List Oper} {K:Act→World→Prop} {a:Act} {w:World} (hno:¬ LetsOut Q) (hd:l.all eT=true) (h:wpOp P l.toArray Q i K a w):wpOpIn (Fence.wide.inRound r) m P l.toArray Q i K a w:=by
 unfold wpOp at h;unfold wpOpIn;cases ho:l.toArray[i]? with
 |none=>rw [ho] at h;exact h
 |some o=>
  rw [ho] at h;simp only at h⊢;have hdo:eT o=true:=List.all_eq_true.1 hd o (aD (by simpa using ho));split
  ·rename_i hw;rw [bh hw] at h;rcases h with h|⟨-,h⟩;exact qh hdo h;exact absurd h hno
  ·rename_i hw;rw [bg hw] at h;exact ⟨λ_ _=>trivial,h⟩
theorem kD {r:Nat} {l:List Oper} (hno:¬ LetsOut Q) (hd:l.all eT=true):∀ (fuel:Nat) (listed:Array Bool) (a:Act) (w:World),ke (Fence.wide.inRound r) m P md l.toArray Q S n fuel listed a w→wpAnyIn (Fence.wide.inRound r) m P md l.toArray Q fuel listed a w
 |0,_,_,_,h=>h
 |fuel+1,listed,a,w,h=>by refine ⟨h.1,λi hi=>?_⟩;rcases Nat.lt_or_ge i n with hlt|hge;exact Aq hno hd (wpOp_mono (λa' w' h'=>kD hno hd fuel _ a' w' h'.2) ((h.2 i hi).1 hlt));exact wpOpIn_mono (λa' w' h'=>kD hno hd fuel _ a' w' h') ((h.2 i hi).2 hge)
theorem qw {i:Nat} {oi:Oper} {v:Value} (hi:ops[i]?=some oi) (hsel:∀ (j:Nat) (o:Oper) cs b,ops[j]?=some o→o.op≠ .select cs b)
  (hs:Region.sinkB md ops n=true) (hc:Region.chainB md ops n=true) (hn:n<ops.size) (hin:i<n)
  (hQ:∀ c a w,Q (.panic c) (a.put oi.dst v) w→Q (.panic c) a w):
  ∀ (fuel:Nat) (listed:Array Bool) (a:Act) (w:World),HeadInv md ops n listed→
   (∀ j oj,ops[j]?=some oj→j≠i→listed.getD j true=false→(∀ e∈oj.after,Region.binds md e=true→e.on≠i)→oi.apart ops oj=true)→
   i∈Region.ready md ops listed→YieldsIf P ops S oi v a→S w→
   ke F m P md ops Q S n fuel (listed.setIfInBounds i true) (a.put oi.dst v) w→ke F m P md ops Q S n (fuel+1) listed a w:=by
    intro fuel;induction fuel with
    |zero=>intro listed a w inv _ hr hy hS H;refine ⟨λh=>(by rw [h] at hr;cases hr),λj hj=>?_⟩;by_cases hji:j=i;subst hji;exact ⟨λ_=>hy.wpOp hi hS ⟨hS,H⟩,λh=>absurd hin (by omega)⟩;have:=ready_mono hj hji;rw [H.1] at this;cases this
    |succ fuel ih=>
     intro listed a w inv hfree hr hy hS H;refine ⟨λh=>(by rw [h] at hr;cases hr),λj hj=>?_⟩;have hun:=(mem_ready.1 hr).1;(have hjn:j<n:=by rcases Nat.lt_or_ge j n with h|h;exact h;exact absurd hj (tail_waits hs hc hn inv _ i rfl hin hun j h));refine ⟨λ_=>?_,λh=>absurd hjn (by omega)⟩;by_cases hji:j=i;subst hji;exact hy.wpOp hi hS ⟨hS,H⟩
     ·have h1:=(H.2 j (ready_mono hj hji)).1 hjn;obtain ⟨hjun,oj,hoj,hall⟩:=mem_ready.1 hj;(have hnot:∀ e∈oj.after,Region.binds md e=true→e.on≠i:=λe he hb heq=>by have h1:=hall e he hb;rw [heq,getD_both hun] at h1;cases h1);have h2:=wpOp_putIf hoj (hfree j oj hoj hji hjun hnot) (λcs b=>hsel i oi cs b hi) (λcs b=>hsel j oj cs b hoj) hQ hy h1
      have hfree':∀ k ok,ops[k]?=some ok→k≠i→(listed.setIfInBounds j true).getD k true=false→
        (∀ e∈ok.after,Region.binds md e=true→e.on≠i)→oi.apart ops ok=true:=λk ok hk hki hun hno=>by
       refine hfree k ok hk hki ?_ hno
       by_cases hjk:j=k
       · subst hjk;exact hjun
       · rw [getD_set_ne true hjk] at hun;exact hun
      refine wpOp_mono (λa' w' h3=>⟨h3.2.1,ih (listed.setIfInBounds j true) a' w' (inv.set hj hjn) hfree' (ready_mono hr (Ne.symm hji)) h3.1 h3.2.1 ?_⟩) h2;rw [Array.setIfInBounds_comm _ _ hji];exact h3.2.2
structure AtX (F:Fence) (m:Nat) (P:Program) (md:Region.Mode) (ops:Array Oper) (Q:Exit→Act→World→Prop) (S:World→Prop) (n fuel:Nat) (listed:Array Bool) (a:Act) (w:World):Prop where
 go:nf md ops n=true→HeadInv md ops n listed→ke F m P md ops Q S n fuel listed a w
theorem oG {r id:Nat} {a:Act} {w:World} {l:List Oper} (S:World→Prop) (n:Nat) (hm:P.follows .mixedOrders=true) (hB:nf .any l.toArray n=true) (hno:¬ LetsOut Q) (hd:l.all eT=true)
  (h:AtX (Fence.wide.inRound r) m P .any l.toArray Q S n l.length (Array.replicate l.length false) a w.drew):(Code.region id l.toArray true).wpIn (Fence.wide.inRound r) m P Q a w:=by refine wpIn_region_any hm ?_;(have hz:l.toArray.size=l.length:=by simp);rw [hz];refine kD (n:=n) (S:=S) hno hd _ _ _ _ (h.go hB ⟨by simp,λj oj _ hl=>(by rw [getD_replicate_false] at hl;cases hl),λt _ ht=>getD_in (by simpa using ht) (getD_replicate_false _ _)⟩)
theorem jv (i:Nat) {l:List Oper} {oi:Oper} {v:Value} {fuel:Nat} {listed:Array Bool} {a:Act} {w:World} (hi:l[i]?=some oi) (hin:i<n)
  (hf:Region.free md l.toArray listed i=true) (hr:(Region.ready md l.toArray listed).contains i=true)
  (hQ:∀ c a w,Q (.panic c) (a.put oi.dst v) w→Q (.panic c) a w) (hy:YieldsIf P l.toArray S oi v a) (hS:S w)
  (h:AtX F m P md l.toArray Q S n fuel (listed.setIfInBounds i true) (a.put oi.dst v) w):AtX F m P md l.toArray Q S n (fuel+1) listed a w:=by refine ⟨λhB inv=>?_⟩;have hB':=hB;simp only [nf,Bool.and_eq_true,bR] at hB';obtain ⟨⟨⟨hsel,hn⟩,hs⟩,hc⟩:=hB';(have hr':i∈Region.ready md l.toArray listed:=by simpa using hr);(have hi':l.toArray[i]?=some oi:=by simpa using hi);exact qw hi' (Region.noSelect_spec hsel) hs hc hn hin hQ fuel listed a w inv (Region.free_spec hi' hf) hr' hy hS (h.go hB (inv.set hr' hin))
theorem sk (i:Nat) {l:List Oper} {oi:Oper} {fuel:Nat} {listed:Array Bool} {a:Act} {w:World} (hi:l[i]?=some oi) (hin:i<n)
  (hr:Region.ready md l.toArray listed=[i]) (hw:Region.wanted oi (yielded l.toArray a.tmps)=true)
  (h:∀ K:Act→World→Prop,RowKit.Hid (∀ a' w',S w'→AtX F m P md l.toArray Q S n fuel (listed.setIfInBounds i true) a' w'→K a' w')→oi.wp P a w K Q):
  AtX F m P md l.toArray Q S n (fuel+1) listed a w:=by refine ⟨λhB inv=>⟨λh0=>(by rw [hr] at h0;cases h0),λj hj=>?_⟩⟩;(have hr':i∈Region.ready md l.toArray listed:=by rw [hr];simp);(have hji:j=i:=by rw [hr] at hj;simpa using hj);subst hji;(have hi':l.toArray[j]?=some oi:=by simpa using hi);refine ⟨λ_=>?_,λh=>absurd hin (by omega)⟩;unfold wpOp;simp only [hi',hw,if_true];refine .inl (h _ (Hd λa' w' hS hA=>⟨hS,hA.go hB (inv.set hr' hin)⟩))
theorem jV:∀ (l:List Oper) (k:Nat) (listed:Array Bool) (a:Act) (w:World),n≤k→(∀ j,l[j]?=ops[k+j]?)→
  Region.seqB md ops l.length k listed=true→wpListIn F m P ops Q l a w→ke F m P md ops Q S n l.length listed a w
 |[],_,_,_,_,_,_,hB,h=>⟨by simpa [Region.seqB] using hB,h⟩
 |o::l,k,listed,a,w,hnk,hl,hB,h=>by
  have h0:ops[k]?=some o:=by simpa using (hl 0).symm
  simp only [aG,Region.seqB,Bool.and_eq_true,bR] at hB;refine ⟨λh1=>(by rw [hB.1] at h1;cases h1),λi hi=>?_⟩;rw [hB.1] at hi;have hik:i=k:=by simpa using hi
  subst hik;refine ⟨λhlt=>absurd hlt (by omega),λ_=>?_⟩;have hw:wpOpIn F m P ops Q i (wpListIn F m P ops Q l) a w:=by unfold wpOpIn;simp only [h0];exact h
  exact wpOpIn_mono (λa' w' h'=>jV l (i+1) _ a' w' (by omega) (λj=>by have:=hl (j+1);simpa [Nat.add_assoc,Nat.add_comm 1 j] using this) hB.2 h') hw
theorem A1 {l:List Oper} {fuel:Nat} {listed:Array Bool} {a:Act} {w:World} (hf:fuel=(l.drop n).length) (hB:Region.seqB md l.toArray fuel n listed=true)
  (h:wpListIn F m P l.toArray Q (l.drop n) a w):AtX F m P md l.toArray Q S n fuel listed a w:=by refine ⟨λ_ _=>?_⟩;subst hf;exact jV (l.drop n) n listed a w (am _) (λj=>by simp [List.getElem?_drop]) hB h
end
end Go.Proofs.YtchbedbmjiabgaaGreatDoor
namespace Go.Proofs.YtchbedbmjiabgaaGreatDoor
open Go.RowKit Go.Proofs.Tryz
attribute [local go_sem] Oper.semAt_some
theorem zt (w:World):(zeroValue 124).run prog w= .ok (.agg #[.slice none 0 0,.slice none 0 0]) w:=by kernel_rfl
def boxK (v0 v1:Value):Obj:= .cells #[v0,v1] 124
theorem szPair:(prog.info? 124).map (·.size)=some 2:=by kernel_rfl
theorem wn (w:World):(Instr.alloc 124 true (.tuple #[])).run prog w= .ok (.pointer (some ⟨w.heap.size,0,none⟩)) (w.alloc (boxK (.slice none 0 0) (.slice none 0 0))):=by unfold Instr.alloc;rw [Sem.run_bind,zt,bu];simp [go_sem,newVar,newRow,Value.cells,boxK]
theorem k9 {w:World} {ops:Array Oper} {rest:List Oper} {o:Oper} {a:Act} {Q:Exit→Act→World→Prop} (hgd:o.guard=none) (x y:Operand) (ho:o.op= .store 124 x y) (g:Nat) (hx:a.eval x= .pointer (some ⟨g,0,none⟩)) (u0 u1 v0 v1:Value) (hy:a.eval y= .agg #[v0,v1]) (hg:w.heap[g]?=some (boxK u0 u1)) (h1:v0.oneCell'=true∧v1.oneCell'=true)
  (h:∀ w',w'.heap[g]?=some (boxK v0 v1)→Chg (λk=>k=g) w w'→wpList prog ops Q rest (a.put o.dst undef) w'):wpList prog ops Q (o::rest) a w:=by refine wpList_store_row hgd 124 x y ho g _ hx hy 124 _ hg szPair (by rfl) (by simp [h1]) ?_;exact h _ (setRow_heap w g _ _ _ (0,0) hg) (eW _ _ _).1
def encA (x:(KV×TA)×Nat) (args:Array Value) (_:World):Prop:=args=#[.int .i64 (x.2:Int),.agg #[.slice x.1.2.ka x.1.1.1.length x.1.2.kc,.slice x.1.2.va x.1.1.2.length x.1.2.vc]]
def zh (J:Nat→Own→World→Prop) (oa:Option Addr) (n oc:Nat) (zs:List (KV×TA)) (v:Value) (wr:World):Prop:=
 ∃ (j:Nat) (S:Own),j≤n∧v= .int .i64 j∧J j S wr∧(∀ k,S.t k→k<wr.heap.size)∧(∀ k,S.s k→S.t k)∧(∀ k,blk oa=some k→¬ S.s k)∧OR ePr wr oa oc n (dK zs)
theorem Bb {Fb:Nat→Prop} {b1 n oc:Nat} {oa:Option Addr} {zs:List (KV×TA)} {w:World} (hl:zs.length=n) (h8:n≤100000000000) (hc:w.cell? ⟨b1,0,none⟩=some (.slice oa n oc)) (hO:OR ePr w oa oc n (dK zs)) (hia:∀ k,blk oa=some k→¬ Fb k):
  Iter2 168 #[.pointer (some ⟨b1,0,none⟩)] encA (λ_ _ _=>False) Fb zs.zipIdx w:=by
   intro l J Jx T0 W hW hFb hsub hJ hJx hY h0;have hcc:=(cv hW (ct hc)).trans hc;have CN:=Hd (show zh J oa n oc zs (.int .i64 0) W from ⟨0,⟨Fb,T0⟩,aV _,rfl,h0,hFb,hsub,hia,hO.chg (F:=λ_=>False) (ac hW) (λ_ _ f=>f)⟩);have HY:=Hd hY;have HJ:=Hd hJ;have HL:=Hd hl;clear hc hO hW hY hJ hJx h0 hFb hia hl hsub;refine (callsIn_wide (n:=0)).1 (callsIn_of_wp func168 rfl trivial ?_ rfl);simp only [ntmps168,bw,aG,aR,Nat.reduceAdd,Nat.reduceSub,Array.replicate_succ,Array.replicate_zero,List.push_toArray,List.append_toArray,a7,aZ];gi_wp2_with fail;gi_loopw [7] (λv wr=>zh J oa n oc zs v wr) (λv _=>n-(intOf v).toNat);case atStart=>exact CN.out
   case round=>
    obtain ⟨j,S,hj,rfl,hJj,hS1,hS0,hS3,hO⟩:=hrel;by_cases hji:j<n
    ·obtain ⟨⟨x,tx⟩,hz⟩:∃ z,zs[j]?=some z:=⟨_,ap (by rw [HL.out];exact hji)⟩;(have hzx:zs.zipIdx[j]?=some ((x,tx),j):=by rw [List.getElem?_zipIdx,hz];simp);obtain ⟨g,rfl,c0, -⟩:=hO.cell (fV hz).1;obtain ⟨g1,e1,c1, -⟩:=hO.cell (fV hz).2;cases e1;simp only at c0 c1;have hjm:n-(intOf (.int .i64 ((j:Int)+1))).toNat<n-(intOf (.int .i64 (j:Int))).toNat:=fS hji;have Ev:=Hd hjm;have Dn:=Hd hS1;have DP:=Hd hS0;have Bt:=Hd hS3;have HO:=Hd hO;have HJJ:=Hd hJj;have HZX:=Hd hzx;have HJI:=Hd hji;clear hz hzx hJj hS1 hS0 hS3 hO hjm;gi_wp2_with (refine lw rfl (λ⟨_,_,h⟩=>by obtain ⟨⟨_,h⟩,_⟩:=h;cases h) ?_);go_wp2_with (first|(refine cR rfl 124 rfl _ wn ?_;intro u1 hR hA;have Br:=Hd hR;have Ce:=Hd hA;clear hR hA)|(refine k9 rfl (.tmp 4) (.tmp 11) rfl wr.heap.size rfl _ _ (.slice tx.ka x.1.length tx.kc) (.slice tx.va x.2.length tx.vc) rfl Br.out ⟨rfl,rfl⟩ ?_;intro u2 hR hC;have Bd:=Hd (aa Ce.out hC);have s0:=bd _ _ 0 _ _ _ hR;have s1:=bd _ _ 1 _ _ _ hR;clear hR hC c0 c1));obtain ⟨fn,tmps,assign,body,hy,hR⟩:=HY.out j _ _ S u2 HZX.out rfl (λ_ h=>h.elim) (HJ.out _ _ _ _ HJJ.out (Stay.of_below Bd.out)) (λk h=>an (Dn.out k h) Bd.out.size) DP.out;dsimp only at hy;(try simp only [Act.put,LA,LZ,LS]);gi_wp2_with fail;refine ⟨rfl,hR.mono ?_⟩;rintro e W4 (⟨rfl,⟨S2,hJ4,hg⟩,hk4⟩|⟨rfl,⟨S2,hJ4,hg⟩,hk4⟩)
     ·have Bp:=Hd (show zh J (some ⟨g,0,none⟩) n oc zs (.int .i64 ((j:Int)+1)) W4 from by have h1:=HO.out.chg (F:=λ_=>False) (ac Bd.out) (λ_ _ f=>f);refine ⟨j+1,S2,HJI.out,rfl,hJ4,hg.lt,hg.sub,λk e h=>?_,h1.chg hk4 Bt.out⟩;rcases hg.old _ h with h|h;exact Bt.out k e h;have:=h1.lt k e;omega);clear hJ4 hk4 hg hy hR s0 s1;gi_wp2_with fail;go_roundw;(case rel=>exact Bp.out);case measure=>exact Ev.out
     ·have HE:=Hd hJ4;clear hJ4 hk4 hg hy hR s0 s1;gi_wp2_with fail;refine bodyPost_ret (results_none rfl _ _ _) rfl ?_;exact ⟨⟨_,rfl⟩,.inr ⟨_,HE.out⟩⟩
    ·(obtain rfl:j=n:=by omega);have HE:=Hd (show J zs.zipIdx.length S wr from by rw [List.length_zipIdx,HL.out];exact hJj);clear hJj hO hS1 hS0 hS3;gi_wp2_with fail;go_end0;exact ⟨⟨_,rfl⟩,.inl ⟨_,HE.out⟩⟩
theorem all_any {oa:Option Addr} {n oc:Nat} (w:World):Calls prog 125 #[.slice oa n oc] w λe w'=>e= .returned (.func (.func 168) #[] #[.pointer (some ⟨w.heap.size,0,none⟩)])∧w'=w.alloc (.cells #[.slice oa n oc] 68):=by go_enter func125,ntmps125;go_wp2_with fail;go_ret;exact ⟨by simp,rfl⟩
def encT (x:(KV×TA)×Nat) (args:Array Value) (_:World):Prop:=∃ a c a2 c2,args=#[.slice a x.1.1.1.length c,.slice a2 x.1.1.2.length c2]
def InvTo (J:Nat→Own→World→Prop) (l yb b0:Nat) (zs:List (KV×TA)) (j:Nat) (S:Own) (W:World):Prop:=
 J j S W∧W.cell? ⟨yb,0,none⟩=some (.func (.yield l) #[] #[])∧yb<b0∧¬ S.s yb∧b0≤W.heap.size∧∀ z∈zs,OB W z.2.ka z.2.kc z.1.1∧OB W z.2.va z.2.vc z.1.2∧∀ k,blk z.2.ka=some k∨blk z.2.va=some k→k<b0∧¬ S.s k
theorem Stay.cell {B:Nat} {S:Nat→Prop} {w w':World} (h:Stay B S w w') {b o:Nat} {v:Value} (hc:w.cell? ⟨b,o,none⟩=some v) (hb:b<B∨S b):w'.cell? ⟨b,o,none⟩=some v:=by have hlt:=ct hc;obtain ⟨ob,ho⟩:∃ ob,w.heap[b]?=some ob:=⟨_,Array.getElem?_eq_getElem hlt⟩;have h2:=h.same b ob ho hb;unfold World.cell? at hc⊢;simp only [h2];simpa only [ho] using hc
theorem InvTo.stay {J:Nat→Own→World→Prop} {l yb b0 B:Nat} {zs:List (KV×TA)} {j:Nat} {S:Own} {A A':World} (h:InvTo J l yb b0 zs j S A) (hJ:∀ j S A B',J j S A→Stay B S.t A B'→J j S B') (hs:Stay b0 S.t A A') (hB:B≤b0):InvTo J l yb b0 zs j S A':=by obtain ⟨h1,h2,h3,h4,h5,h6⟩:=h;exact ⟨hJ _ _ _ _ h1 (hs.mono hB (λ_ h=>h)),hs.cell h2 (.inl h3),h3,h4,ao h5 hs.size,λz hz=>⟨hs.or (h6 z hz).1 (λk e=> .inl ((h6 z hz).2.2 k (.inl e)).1),hs.or (h6 z hz).2.1 (λk e=> .inl ((h6 z hz).2.2 k (.inr e)).1),(h6 z hz).2.2⟩⟩
def AxTo (w0:Nat) (a:Act) (x:(KV×TA)×Nat) (_:Array Value) (a':Act) (A:World):Prop:=
 ∃ xb,w0+1<xb∧A.heap[xb]?=some (boxK (.slice x.1.2.ka x.1.1.1.length x.1.2.kc) (.slice x.1.2.va x.1.1.2.length x.1.2.vc))∧
  a'={tmps:=((a.tmps.setIfInBounds 6 (.int .i64 (x.2:Int))).setIfInBounds 7 (.agg #[.slice x.1.2.ka x.1.1.1.length x.1.2.kc,.slice x.1.2.va x.1.1.2.length x.1.2.vc])).setIfInBounds 4 (.pointer (some ⟨xb,0,none⟩)),defers:=[]}
theorem ub {Fb:Nat→Prop} {b1 pb n oc:Nat} {oa:Option Addr} {zs:List (KV×TA)} {w:World} (hl:zs.length=n) (h8:n≤100000000000) (hc1:w.cell? ⟨b1,0,none⟩=some (.func (.func 168) #[] #[.pointer (some ⟨pb,0,none⟩)])) (hc2:w.cell? ⟨pb,0,none⟩=some (.slice oa n oc))
  (hO:OR ePr w oa oc n (dK zs)) (hzs:∀ z∈zs,OB w z.2.ka z.2.kc z.1.1∧OB w z.2.va z.2.vc z.1.2) (hlen:∀ z∈zs,z.1.1.length≤1000000∧z.1.2.length≤1000000) (hia:∀ k,blk oa=some k→¬ Fb k) (hza:∀ z∈zs,∀ k,blk z.2.ka=some k∨blk z.2.va=some k→¬ Fb k):
  Iter2 167 #[.pointer (some ⟨b1,0,none⟩)] encT (λ_ _ _=>False) Fb zs.zipIdx w:=by
   intro l J Jx T0 W hW hFb hsub hJ hJx hY h0;have d1:=(cv hW (ct hc1)).trans hc1;have m1:=bY W (.cells #[.func (.yield l) #[] #[]] 122);have m2:=az W (.cells #[.func (.yield l) #[] #[]] 122);have hWO:OR ePr W oa oc n (dK zs):=hO.chg (F:=λ_=>False) (ac hW) (λ_ _ f=>f);have HWC:=Hd ((cv (hW.trans (m1.mono hW.size)) (ct hc2)).trans hc2);have HWO:=Hd (hWO.chg (F:=λ_=>False) (ac m1) (λ_ _ f=>f));have Ff:=Hd hWO.lt;have HIA:=Hd hia;have Gb:=Hd (an (ct hc2) hW.size);have HL:=Hd hl;have DJ:=Hd hlen;have HY:=Hd hY;have HJ:=Hd hJ;have HJX:=Hd hJx;have HFB:=Hd hFb;have D9:=Hd hsub
   have HI0:=Hd (show InvTo J l W.heap.size (W.alloc (.cells #[.func (.yield l) #[] #[]] 122)).heap.size zs 0 ⟨Fb,T0⟩ (W.alloc (.cells #[.func (.yield l) #[] #[]] 122)) from
    ⟨hJ _ _ _ _ h0 (Stay.of_below m1),bd _ _ 0 _ _ _ m2,rltT m2,λh=>absurd (hFb _ (hsub _ h)) (Nat.lt_irrefl _),am _,λz hz=>by
      have h1:=ag (hzs z hz).1 hW
      have h2:=ag (hzs z hz).2 hW
      exact ⟨ag h1 m1,ag h2 m1,λk e=>⟨by have:=m1.size;rcases e with e|e;exact an (OR.lt h1 k e) this;exact an (OR.lt h2 k e) this,hza z hz k e⟩⟩⟩)
   have HM:=Hd m1;have CS:=Hd (rltT m2);clear hc1 hc2 hO hzs hlen hia hza hW hJ hJx hY h0 hFb hsub m1 m2 hWO hl;refine (callsIn_wide (n:=0)).1 (callsIn_of_wp_marks func167 rfl trivial ?_ rfl);simp only [ntmps167,bw,aG,aR,Nat.reduceAdd,Nat.reduceSub,Array.replicate_succ,Array.replicate_zero,List.push_toArray,List.append_toArray,a7,aZ];have d2:=(cv HM.out (ct d1)).trans d1;clear d1;gi_wp2_with fail;generalize W.alloc (.cells #[.func (.yield l) #[] #[]] 122)=W0 at*
   refine jG (gf:=168) (lb:=#[.pointer (some ⟨pb,0,none⟩)]) rfl (enters_of func168 (by kernel_rfl) rfl) (Enc:=encA) (Gv:=λ_ _ _=>False) Fb T0 (λk h=>an (HFB.out k h) HM.out.size) D9.out zs.zipIdx
    (Bb HL.out h8 HWC.out HWO.out (λk e h=>by have:=Ff.out k e;have:=HM.out.size;rcases h with h|h|h;exact HIA.out k e h;omega;omega)) (λ_ _ _ h=>by rw [h];rfl)
    (InvTo J l W.heap.size W0.heap.size zs) (λc S A=>c= .ret∧Jx S A) (λj S A A' h hs=>h.stay HJ.out hs HM.out.size) (λc S A A' h hs=>⟨h.1,HJX.out _ _ _ h.2 (hs.mono HM.out.size (λ_ h=>h))⟩) HI0.out (AxTo W0.heap.size)
    (λx args a' A A' h hc=>by obtain ⟨xb,h1,h2,h3⟩:=h;exact ⟨xb,h1,hc.row h2,h3⟩) ?_ ?_ ?_ ?_
   ·rintro l' j x args S W1 K hx rfl-hI hS hs hK;obtain ⟨⟨⟨key,val⟩,tx⟩,i⟩:=x;dsimp only;simp only [Array.zip,List.zipWith_toArray,List.zipWith_cons_cons,List.zipWith_nil_left,List.zipWith_nil_right,bw,aG,aR,bP,List.foldl_toArray',List.foldl_toArray,List.foldl_cons,List.foldl_nil,LA,LZ,LS];clear hI hx;refine cI (λ⟨_,_,h⟩=>h) rfl ?_;go_wp2_with (first|(refine cR rfl 124 rfl _ wn ?_;intro u1 hR hA;have Br:=Hd hR;have Ce:=Hd hA;clear hR hA)|(refine k9 rfl (.tmp 4) (.tmp 7) rfl W1.heap.size rfl _ _ (.slice tx.ka key.length tx.kc) (.slice tx.va val.length tx.vc) rfl Br.out ⟨rfl,rfl⟩ ?_;intro u2 hR hC;have Bd:=Hd (aa Ce.out hC);have EL:=Hd hR;clear hR hC));exact hK _ _ Bd.out ⟨W1.heap.size,by omega,EL.out,rfl⟩
   ·rintro l' j ⟨⟨⟨key,val⟩,tx⟩,i⟩ args S a' W1 hx-hI hS hsub hs ⟨xb,hxl,hxb,rfl⟩;simp only [LA,LZ,LS]
    have hzm:((key,val),tx)∈zs:=by
     have h:=hx;rw [List.getElem?_zipIdx] at h;cases hj:zs[j]? with
     |none=>rw [hj] at h;cases h
     |some z=>rw [hj] at h;simp only [Option.map_some,bK,Prod.mk.injEq] at h;rw [←h.1];exact aD hj
    obtain ⟨hj1,hyb,hyl,hys,hb0,hzz⟩:=hI;have HJ1:=Hd hj1;have HYS:=Hd hys;have F5:=Hd hyb;have HYL:=Hd hyl;have BI:=Hd hb0;have GP:=Hd hzz;have HX:=Hd hx;have HS:=Hd hS;have GR:=Hd hsub;have Cq:=Hd ((hzz _ hzm).1);have GA:=Hd ((hzz _ hzm).2.1);have G1:=Hd (DJ.out _ hzm);simp only at hxb Cq GA G1;obtain ⟨kl,hkl⟩:∃ n,key.length=n:=⟨_,rfl⟩;obtain ⟨vl,hvl⟩:∃ n,val.length=n:=⟨_,rfl⟩;have Cb:=Hd hkl;have C6:=Hd hvl;rw [hkl,hvl] at hxb G1;rw [hkl,hvl];have Dj:=Hd hxb;have BG:=Hd λw' (hb:Below W1.heap.size W1 w')=>(show (λw':World=>w'.cell? ⟨W.heap.size,0,none⟩=some (.func (.yield l) #[] #[])∧w'.cell? ⟨xb,0,none⟩=some (.slice tx.ka kl tx.kc)∧w'.cell? ⟨xb,1,none⟩=some (.slice tx.va vl tx.vc)) w' from ⟨(cv hb (ct hyb)).trans hyb,bd _ _ 0 _ _ _ ((hb.block _ (rltT hxb)).trans hxb),bd _ _ 1 _ _ _ ((hb.block _ (rltT hxb)).trans hxb)⟩);have Bf:=Hd (BG.out _ (aA W1.heap.size W1).drew);have DL:=Hd λw' (hb:Below W1.heap.size W1 w')=>gH (a:=tx.ka) (c:=tx.kc) (n:=kl) (cs:=bZ key) (w:=w') (by have:=G1.out.1;omega) (by rw [b7,Cb.out];exact (Nat.mul_one _).symm) (cE _) (by have h:=ej (show OR eB w' tx.ka tx.kc key.length (bZ key) from Cq.out.below hb);rwa [Cb.out] at h);have HCV:=Hd λw' (hb:Below W1.heap.size W1 w')=>gH (a:=tx.va) (c:=tx.vc) (n:=vl) (cs:=bZ val) (w:=w') (by have:=G1.out.2;omega) (by rw [b7,C6.out];exact (Nat.mul_one _).symm) (cE _) (by have h:=ej (show OR eB w' tx.va tx.vc val.length (bZ val) from GA.out.below hb);rwa [C6.out] at h);clear hj1 hyb hyl hys hb0 hzz hzm hx hS hsub hkl hvl hxb;refine wpIn_block ?_;refine wpIn_seq_k ?_;intro K2 hK2;refine oG (λw':World=>w'.cell? ⟨W.heap.size,0,none⟩=some (.func (.yield l) #[] #[])∧w'.cell? ⟨xb,0,none⟩=some (.slice tx.ka kl tx.kc)∧w'.cell? ⟨xb,1,none⟩=some (.slice tx.va vl tx.vc)) 7 (by kernel_rfl) (by kernel_rfl) (λ⟨_,_,h⟩=>h) rfl ?_;change AtX _ _ _ _ _ _ _ _ 9 #[false,false,false,false,false,false,false,false,false] _ _;refine jv 0 (v:=?_) rfl (by decide) (by kernel_rfl) (by kernel_rfl) (λ_ _ _ h=>h) (Or.inl ⟨by rfl,?_⟩) Bf.out ?_;rotate_left
    ·intro w' hSw;(try dsimp only at hSw);go_simp;(try with_reducible rfl)
    simp only [Act.put,LA,LZ,LS];refine jv 1 (v:=?_) rfl (by decide) (by kernel_rfl) (by kernel_rfl) (λ_ _ _ h=>h) (Or.inl ⟨by rfl,?_⟩) Bf.out ?_;rotate_left
    ·intro w' hSw;(try dsimp only at hSw);go_simp;(try with_reducible rfl)
    simp only [Act.put,LA,LZ,LS];refine jv 2 (v:=?_) rfl (by decide) (by kernel_rfl) (by kernel_rfl) (λ_ _ _ h=>h) (Or.inl ⟨by rfl,?_⟩) Bf.out ?_;rotate_left
    ·intro w' hSw;(try dsimp only at hSw);go_simp;(try with_reducible rfl)
    simp only [Act.put,LA,LZ,LS];refine jv 4 (v:=?_) rfl (by decide) (by kernel_rfl) (by kernel_rfl) (λ_ _ _ h=>h) (Or.inl ⟨by rfl,?_⟩) Bf.out ?_;rotate_left
    ·intro w' hSw;(try dsimp only at hSw);go_simp;(try with_reducible rfl)
    simp only [Act.put,LA,LZ,LS];refine jv 5 (v:=?_) rfl (by decide) (by kernel_rfl) (by kernel_rfl) (λ_ _ _ h=>h) (Or.inl ⟨by rfl,?_⟩) Bf.out ?_;rotate_left
    ·intro w' hSw;(try dsimp only at hSw);go_simp;(try with_reducible rfl)
    simp only [Act.put,LA,LZ,LS];refine sk 3 rfl (by decide) (by kernel_rfl) (by rfl) ?_;intro K hK;go_simp;refine (DL.out _ (aA W1.heap.size W1).drew).mono ?_;rintro _ w2 ⟨pa,pc,rfl,hO2,hb2,hB2,hn2⟩;have Bd:=Hd (show Below W1.heap.size W1 w2 from (aA W1.heap.size W1).drew.trans hB2);have Bv:=Hd (BG.out _ Bd.out);clear hO2 hb2 hB2 hn2;go_simp;refine hK _ _ Bv.out ?_;clear hK K;simp only [Act.put,LA,LZ,LS];refine sk 6 rfl (by decide) (by kernel_rfl) (by rfl) ?_;intro K hK;go_simp;refine (HCV.out _ Bd.out).mono ?_;rintro _ w3 ⟨qa,qc,rfl,hO3,hb3,hB3,hn3⟩;have Bi:=Hd (Bd.out.trans (hB3.mono Bd.out.size));have Bt:=Hd (BG.out _ Bi.out);clear hO3 hb3 hB3 hn3;go_simp;refine hK _ _ Bt.out ?_;clear hK K;simp only [Act.put,LA,LZ,LS];refine A1 rfl (by kernel_rfl) ?_;simp only [aw,ax];obtain ⟨fn,tmps,assign,body,hy,hR⟩:=HY.out j ((((key,val),tx),i)) #[.slice pa kl pc,.slice qa vl qc] S w3 HX.out ⟨pa,pc,qa,qc,by rw [Cb.out,C6.out]⟩ (λ_ h=>h.elim) (HJ.out _ _ _ _ HJ1.out (Stay.of_below Bi.out)) (λk h=>an (HS.out k h) Bi.out.size) GR.out;gi_wp2_with fail;refine ⟨rfl,hR.mono ?_⟩;have hs3:=Bi.out.size;have up:∀ {S2:Own} {W4:World},Grow (λ_=>False) S S2 w3 W4→Grow (λ_=>False) S S2 W1 W4:=λhg=>⟨λk hk=>(hg.old k hk).imp id (λh=>ao hs3 h),λk hk=>by rcases hg.oldT k hk with h|h|h;exact .inl h;exact .inr (.inl (ao hs3 h));exact h.elim,hg.lt,hg.sub⟩;have upc:∀ {W4:World},Chg S.s w3 W4→Chg S.s W1 W4:=λhk=>(ac Bi.out).trans hk (λ_ _ h=>h);rintro e W4 (⟨rfl,⟨S2,hJ4,hg⟩,hk4⟩|⟨rfl,⟨S2,hJ4,hg⟩,hk4⟩)
    ·have HPO:=Hd (show pX (λ_=>False) S (InvTo J l W.heap.size W0.heap.size zs) (λc S A=>c= .ret∧Jx S A) (j+1) W1 .normal ⟨#[],[]⟩ W4 from by have hc:=upc hk4;refine ⟨hc,S2,up hg,hJ4,(dr hc (ct F5.out) HYS.out).trans F5.out,HYL.out,λh=>?_,ao BI.out hc.size,λz hz=>?_⟩;rcases (up hg).old _ h with h|h;exact HYS.out h;have:=ct F5.out;omega;obtain ⟨h1,h2,h3⟩:=GP.out z hz;exact ⟨aj h1 hc (λk e=>(h3 k (.inl e)).2),aj h2 hc (λk e=>(h3 k (.inr e)).2),λk e=>⟨(h3 k e).1,λh=>by rcases (up hg).old _ h with h|h;exact (h3 k e).2 h;have:=(h3 k e).1;have:=BI.out;omega⟩⟩);clear hJ4 hk4 hg hy hR up upc;gi_wp2_with fail;exact HPO.out
    ·have HPO:=Hd (show pX (λ_=>False) S (InvTo J l W.heap.size W0.heap.size zs) (λc S A=>c= .ret∧Jx S A) (j+1) W1 .ret ⟨#[],[]⟩ W4 from ⟨upc hk4,S2,up hg,rfl,hJ4⟩);clear hJ4 hk4 hg hy hR up upc;gi_wp2_with fail;exact HPO.out
   ·rintro S W1 ⟨h1, -⟩ hD hN;dsimp only;have hnd:¬ S.t W0.heap.size:=λh=>(hN _ h).1 (.inl rfl);have hE:=HJ.out _ _ _ _ h1 (Stay.put (.deferred none) HM.out.size hnd);gi_wp2_with fail;exact jA hD _ (results_none rfl _ _ _) ⟨⟨_,rfl⟩,.inl ⟨_,hE⟩⟩
   ·rintro c S W1 ⟨rfl,h1⟩ hD hN;have hnd:¬ S.t W0.heap.size:=λh=>(hN _ h).1 (.inl rfl);have hE:=HJX.out _ _ _ h1 (Stay.put (.deferred none) HM.out.size hnd);gi_wp2_with fail;exact iG hD _ (results_none rfl _ _ _) ⟨⟨_,rfl⟩,.inr ⟨_,hE⟩⟩
end Go.Proofs.YtchbedbmjiabgaaGreatDoor
namespace Go.Proofs.YtchbedbmjiabgaaGreatDoor
open Go.RowKit Go.Proofs.Tryz
theorem py {rd:Rdr}:∀ {f:Nat} {left n:Int} {d:List UInt8},eo rd f left n=some d→(d.length:Int)≤max left 0
 |0,left,n,d,h=>by
  simp only [eo] at h
  split at h
  · cases h;simp;omega
  · cases h
 |f+1,left,n,d,h=>by
  simp only [eo] at h
  split at h
  · cases h;simp;omega
  · rename_i h0
    split at h
    · cases h
    · rename_i p hp
      split at h
      · rename_i hok
        cases hl:eo rd f (left-min left 480) p.next with
        |none=>rw [hl] at h;cases h
        |some d2=>
         rw [hl] at h
         simp only [Option.map_some,bK] at h
         subst h
         have h1:=py hl
         have h2:(p.data.length:Int)=min left 480:=by simp [cG] at hok;exact hok.2.1
         rw [aq]
         omega
      · cases h
theorem rx {rd:Rdr} {x:PI} {b:List UInt8} (hr:RightI 1 x) (h:valF rd x=some b):b.length≤3840:=by
 have h1:=hr.leaf rfl;unfold valF at h;split at h;cases h;split at h
 ·rename_i h2;have:=(hr.small rfl h2).1;cases h;omega
 have:=py h;omega
theorem zP {g:Nat} {lb:Array Value} (w:World):Calls prog 124 #[.func (.func g) #[] lb] w λe w'=>e= .returned (.func (.func 167) #[] #[.pointer (some ⟨w.heap.size,0,none⟩)])∧w'=w.alloc (.cells #[.func (.func g) #[] lb] 266):=by go_enter func124,ntmps124;go_wp2_with fail;go_ret;exact ⟨by simp,rfl⟩
structure iN (rd:Rdr) (t:TT) (out:List PI):Prop where
 snd:(t.root=0∧out=[])∨(t.root≠0∧∃ c,fa rd t.root out c∧c≤1000000000000)
 vals:∀ x∈out,∃ b,valF rd x=some b
 few:out.length≤100000000000
 many:(out.length:Int)=t.items
def ScanP (w:World) (e:Ending) (w':World):Prop:=
 ∃ (b1:Nat) (zs:List (KV×TA)),e= .returned (.func (.func 167) #[] #[.pointer (some ⟨b1,0,none⟩)])∧Below w.heap.size w w'∧∀ Fb:Nat→Prop,(∀ k,Fb k→k<w.heap.size∨w'.heap.size≤k)→Iter2 167 #[.pointer (some ⟨b1,0,none⟩)] encT (λ_ _ _=>False) Fb zs.zipIdx w'
theorem zY {w w3:World} {rd:Rdr} {out:List PI} {oa:Option Addr} {oc n:Nat} (hn:(out.map (fx rd)).length=n) (h9:n≤100000000000) (hri:∀ x∈out,RightI 1 x) (hvals:∀ x∈out,∃ b,valF rd x=some b) (hp:PrsAt w.heap.size w3 oa oc (out.map (fx rd))) (hb:Below w.heap.size w w3):
  ScanP w (.returned (.func (.func 167) #[] #[.pointer (some ⟨w3.heap.size+1,0,none⟩)])) ((w3.alloc (.cells #[.slice oa n oc] 68)).alloc (.cells #[.func (.func 168) #[] #[.pointer (some ⟨w3.heap.size,0,none⟩)]] 266)):=by
   obtain ⟨zs,hz,hO,hzs,hoa⟩:=hp;have b1:=bY w3 (.cells #[.slice oa n oc] 68);have h1:=az w3 (.cells #[.slice oa n oc] 68);have b2:=bY (w3.alloc (.cells #[.slice oa n oc] 68)) (.cells #[.func (.func 168) #[] #[.pointer (some ⟨w3.heap.size,0,none⟩)]] 266);have h2:=az (w3.alloc (.cells #[.slice oa n oc] 68)) (.cells #[.func (.func 168) #[] #[.pointer (some ⟨w3.heap.size,0,none⟩)]] 266);rw [aX] at h2;have B:=b1.trans (b2.mono b1.size);(have hzl:zs.length=n:=by rw [←hn,←hz,aB]);rw [hzl] at hO;(have hlt:∀ {k},k<w3.heap.size→w.heap.size≤k→∀ {Fb:Nat→Prop},(∀ k,Fb k→k<w.heap.size∨((w3.alloc (.cells #[.slice oa n oc] 68)).alloc (.cells #[.func (.func 168) #[] #[.pointer (some ⟨w3.heap.size,0,none⟩)]] 266)).heap.size≤k)→¬ Fb k:=λh3 h4 h5 h6 h7=>by have:=B.size;rcases h6 _ h7 with h|h<;>omega);refine ⟨w3.heap.size+1,zs,rfl,hb.trans (B.mono hb.size),λFb hFb=>?_⟩;refine ub hzl h9 (bd _ _ 0 _ _ _ h2) (bd _ _ 0 _ _ _ ((b2.block _ (rltT h1)).trans h1)) (hO.chg (F:=λ_=>False) (ac B) (λ_ _ f=>f)) (λz hz=>⟨ag (hzs z hz).1 B,ag (hzs z hz).2.1 B⟩) (λz hzm=>?_) (λk e=>hlt (hO.lt k e) (hoa k e) hFb) (λz hzm k e=>?_)
   ·(have hm:z.1∈out.map (fx rd):=by rw [←hz];exact List.mem_map_of_mem (f:=(·.1)) hzm);obtain ⟨x,hx,he⟩:=bV.1 hm;rw [←he];obtain ⟨b,hbv⟩:=hvals x hx;have h3:=(hri x hx).key;have h4:=rx (hri x hx) hbv;unfold fx;rw [hbv];simp only [bA];omega
   rcases e with e|e;exact hlt (OR.lt (hzs z hzm).1 k e) ((hzs z hzm).2.2.1 k e) hFb;exact hlt (OR.lt (hzs z hzm).2.1 k e) ((hzs z hzm).2.2.2 k e) hFb
theorem PrsAt.low2 {lo l2:Nat} {w:World} {a:Option Addr} {c:Nat} {pl:List KV} (h:PrsAt lo w a c pl) (hl:l2≤lo):PrsAt l2 w a c pl:=by obtain ⟨zs,h1,h2,h3,h4⟩:=h;exact ⟨zs,h1,h2,λz hz=>⟨(h3 z hz).1,(h3 z hz).2.1,λk e=>ao hl ((h3 z hz).2.2.1 k e),λk e=>ao hl ((h3 z hz).2.2.2 k e)⟩,λk e=>ao hl (h4 k e)⟩
theorem zZ (t:TT) {v lo:Nat} {rd:Rdr} {out:List PI} {w:World} (hrt:∀ n p,rd n=some p→RightP p) (hv:IsVR lo w v rd) (ht:iN rd t out):
  Calls prog 89 #[.pointer (some ⟨v,0,none⟩),ttv t,.agg #[.slice none 0 0,.slice none 0 0,.bool true]] w (ScanP w):=by have HRI:=Hd (show ∀ x∈out,RightI 1 x from by rcases ht.snd with ⟨-,rfl⟩|⟨-,c,hs, -⟩;intro x h;cases h;exact λx hx=>(jy hrt hs x hx).1);have b0:=dA w (.cells #[.int .i64 t.root,.int .i64 t.height,.int .i64 t.items] 72) (.cells #[.slice none 0 0,.slice none 0 0,.bool true] 78);have CO:=Hd (pp t hrt (hv.below b0) ht.snd (am _) ht.vals ht.few);have HT:=Hd ht;have BI:=Hd b0;obtain ⟨n,hn⟩:∃ n,(out.map (fx rd)).length=n:=⟨_,rfl⟩;have HN:=Hd hn;have Gf:=Hd (show n≤100000000000 from by have:=ht.few;rw [aB] at hn;omega);unfold iO at CO;rw [hn] at CO;unfold ttv;unfold ttv at CO;clear hn hrt hv ht b0;go_enter func89,ntmps89;go_wp2_with fail;refine CO.out.mono ?_;rintro _ w2 ⟨oa,oc,rfl,hp,hb⟩;have HP:=Hd hp;have HB:=Hd hb;clear hp hb;go_wp2_with fail;refine (all_any _).mono ?_;rintro _ w3 ⟨rfl,rfl⟩;go_wp2_with fail;refine (zP _).mono ?_;rintro _ w4 ⟨rfl,rfl⟩;go_wp2_with fail;go_ret;exact zY HN.out Gf.out HRI.out HT.out.vals (HP.out.low2 BI.out.size) (BI.out.trans (HB.out.mono BI.out.size))
theorem Aw (t:TT) {v lo:Nat} {rd:Rdr} {out:List PI} {w:World} (hrt:∀ n p,rd n=some p→RightP p) (hv:IsVR lo w v rd) (ht:iN rd t out):
  Calls prog 43 #[.pointer (some ⟨v,0,none⟩),ttv t,.agg #[.slice none 0 0,.slice none 0 0,.bool true]] w (iO (out.map (fx rd)) w):=by have b0:=dA w (.cells #[.int .i64 t.root,.int .i64 t.height,.int .i64 t.items] 72) (.cells #[.slice none 0 0,.slice none 0 0,.bool true] 78);have CO:=Hd (pp t hrt (hv.below b0) ht.snd (am _) ht.vals ht.few);have BI:=Hd b0;obtain ⟨n,hn⟩:∃ n,(out.map (fx rd)).length=n:=⟨_,rfl⟩;have HN:=Hd hn;unfold iO at CO⊢;rw [hn] at CO⊢;unfold ttv;unfold ttv at CO;clear hn hrt hv ht b0;go_enter func43,ntmps43;go_wp2_with fail;refine CO.out.mono ?_;rintro _ w2 ⟨oa,oc,rfl,hp,hb⟩;have HP:=Hd hp;have HB:=Hd hb;clear hp hb;go_wp2_with fail;go_ret2;exact ⟨oa,oc,rfl,HP.out.low2 BI.out.size,BI.out.trans (HB.out.mono BI.out.size)⟩
end Go.Proofs.YtchbedbmjiabgaaGreatDoor
