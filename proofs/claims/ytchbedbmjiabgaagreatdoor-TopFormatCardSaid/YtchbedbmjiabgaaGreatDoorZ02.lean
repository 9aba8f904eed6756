/- TopFormat, part 2 of the proof: App EB TArr HeldE TKeep TDisk. No condition. -/
import Derived.StillTail
import Derived.OrdersHeld
import Derived.Test.YtchbedbmjiabgaaGreatDoorZ01
set_option linter.all false
set_option maxHeartbeats 16000000
set_option maxRecDepth 100000
namespace Go.Proofs.YtchbedbmjiabgaaGreatDoor
open Go.RowKit Go.Proofs.Tryz
theorem oz (E:Elt) (w:World) (ty:TypeId) {oa:Option Addr} {cap n:Nat} {cs:List Value} (hown:OR E w oa cap n cs) {ad:Addr} {m c:Nat} {news:List Value} (hl:news.length=m*E.size) (hn:∀ j u,news[j]?=some u→w.cell? (ad.add j)=some u) (h1:∀ u∈news,u.oneCell'=true)
  (hbytes:(n+m)*E.bytes≤140737488355328) (h63:n+m≤140737488355328):
  ∃ oa' cap' w',(Builtin.append_ #[E.t,E.t] ty #[.slice oa n cap,.slice (some ad) m c]).run prog w= .ok (.slice oa' (n+m) cap') w'∧OR E w' oa' cap' (n+m) (cs++news)∧Chg (λk=>blk oa=some k) w w'∧(blk oa'=blk oa∨(blk oa'=some w.heap.size∧Chg (λ_=>False) w w')):=by
   obtain ⟨i0,hi,hz0,hz1,hz2⟩:=info_parts E.hi;obtain ⟨v',w',hr,h2,h3,h4,h5⟩:=run_append_own_at (P:=prog) w 0 E.t ty E.e i0 E.z E.size E.bytes E.hu hi hz0 hz1 hz2 E.hz E.h0 (.slice oa n cap) n cs hown ad m c news hl hn h1 (by unfold maxLen;omega) hbytes (aV _);(have hb:(Value.slice oa n cap).ownBlock=blk oa:=by cases oa<;>rfl);(have hf:∃ oa' cap',v'= .slice oa' (n+m) cap':=by rcases h2.2 with ⟨rfl,h0⟩|⟨g,cap',cur,rfl,_⟩;exact ⟨none,0,by rw [h0]⟩;exact ⟨_,_,rfl⟩);obtain ⟨oa',cap',rfl⟩:=hf;have hC:Chg (λk=>blk oa=some k) w w':=⟨h3.os,h3.tape,h3.output,h3.size,λk hk hn=>h3.block k hk (by rw [hb];exact λe=>hn e.symm)⟩;refine ⟨oa',cap',w',hr,h2,hC,?_⟩;(have hb':(Value.slice oa' (n+m) cap').ownBlock=blk oa':=by cases oa'<;>rfl);rw [hb,hb'] at h5;rcases h5 with h5|h5;exact .inl h5;rcases hown.form with ⟨g1,⟨rfl,_⟩|⟨g,rfl,hg,hnc,hcm,rest,hh,hlen⟩⟩;exact .inr ⟨h5,hC.mono λi _ e=>by cases e⟩
   ·by_cases hroom:n+m≤cap;have hr2:=run_append_room (P:=prog) w E.t ty E.e i0 E.hu hi g n cap _ hh ad m c news (by rw [hz1];exact hl) hn h1 hroom (by rw [hz1,hl,bw,hlen,←Nat.add_mul];exact Nat.mul_le_mul_right _ hroom);rw [hr] at hr2;injection hr2 with e1 e2;injection e1 with e1;exact .inl (by rw [e1])
    ·(have holds:∀ j u,cs[j]?=some u→w.cell? ((⟨g,0,none⟩:Addr).add j)=some u:=λj u hj=>by obtain ⟨g',e,hc,_⟩:=hown.cell hj;cases e;rw [cN,bP];exact hc);have hr2:=run_append_grow (P:=prog) w E.t ty E.e i0 E.z E.hu hi hz0 ⟨g,0,none⟩ n cap cs (by rw [hz1];exact g1) holds ad m c news (by rw [hz1];exact hl) hn (by omega) (by omega) (growslice_fits (by omega) (by rw [hz2];exact hbytes));rw [hr] at hr2;injection hr2 with e1 e2;refine .inr ⟨h5,?_⟩;rw [e2];exact (ae _ w).drew.alloc _
theorem fv (w:World) (v:Value) (t:TypeId):∀ j u,[v][j]?=some u→(w.alloc (.cells #[v] t)).cell? ((⟨w.heap.size,0,none⟩:Addr).add j)=some u:=by
 intro j u hj;obtain rfl:j=0:=by have:=(ar.1 hj).1;simp at this;omega
 rw [cN,bd _ _ _ _ _ _ (az w _)];simpa using hj
theorem mM (E:Elt) {ops:Array Oper} {o:Oper} {a:Act} {w:World} {K:Act→World→Prop} {Q:Exit→Act→World→Prop} {F:Prop} (hgd:o.guard=none) (s x:Operand)
  (ho:o.op= .call {callee:= .builtin .append,args:=#[s,x],argTypes:=#[E.t,E.t]})
  {oa:Option Addr} {cap n:Nat} {cs:List Value} (hs:a.eval s= .slice oa n cap) (hown:OR E w oa cap n cs)
  {ad:Addr} {m c:Nat} {news:List Value} (hx:a.eval x= .slice (some ad) m c) (hl:news.length=m*E.size) (hn:∀ j u,news[j]?=some u→w.cell? (ad.add j)=some u) (h1:∀ u∈news,u.oneCell'=true)
  (hbytes:(n+m)*E.bytes≤140737488355328) (h63:n+m≤140737488355328)
  (h:∀ oa' cap' w',OR E w' oa' cap' (n+m) (cs++news)→Chg (λk=>blk oa=some k) w w'→(blk oa'=blk oa∨(blk oa'=some w.heap.size∧Chg (λ_=>False) w w'))→K (a.put o.dst (.slice oa' (n+m) cap')) w'):
  if Region.wanted o (yielded ops a.tmps)=true then Oper.wp prog o a w K Q else F:=by (have hw:Region.wanted o (yielded ops a.tmps)=true:=by simp [Region.wanted,hgd]);rw [bh hw];obtain ⟨oa',cap',w',hr,h2,h3,h4⟩:=oz E w o.type hown hl hn h1 hbytes h63 (ad:=ad) (c:=c);unfold Oper.wp execOp;simp only [ho,resolve,invoke,builtin,Sem.run_bind,Sem.run_pure,bu,List.map_toArray,a9,List.map_nil,hs,hx,hr];exact h oa' cap' w' h2 h3 h4
def zs (n:Nat):List UInt8:=List.replicate n 0
def EB (w:World) (g:Nat) (bs:List UInt8):Prop:=bs.length≤512∧w.heap[g]?=some (.cells (bZ (bs++zs (512-bs.length))).toArray 5)
theorem EB.chg {F:Nat→Prop} {w w':World} {g:Nat} {bs:List UInt8} (h:EB w g bs) (hc:Chg F w w') (hn:¬ F g):EB w' g bs:=by refine ⟨h.1,?_⟩;rw [hc.block g (bj.1 h.2).1 hn];exact h.2
theorem EB.lt {w:World} {g:Nat} {bs:List UInt8} (h:EB w g bs):g<w.heap.size:=(bj.1 h.2).1
theorem EB.below {w w':World} {g:Nat} {bs:List UInt8} (h:EB w g bs) (hb:Below w.heap.size w w'):EB w' g bs:=h.chg (F:=λ_=>False) (ac hb) (λf=>f)
theorem EB.ob {w:World} {g:Nat} {bs:List UInt8} (h:EB w g bs):OB w (some ⟨g,0,none⟩) 512 bs:=by refine ⟨by rw [b7];exact (Nat.mul_one _).symm,.inr ⟨g,512,_,rfl,aV _,h.2,h.1,by unfold maxLen;omega,?_,?_⟩⟩;rw [bw,b7,aq,zs,aH];have:=h.1;show _=512*1;omega;show ((bZ (bs++zs (512-bs.length))).toArray.toList).take (bs.length*1)=_;rw [Nat.mul_one,j9,bG (by rw [b7];exact am _),av (by rw [b7];exact am _)]
theorem EB.full {w:World} {g:Nat} {bs:List UInt8} (h:EB w g bs) (hl:bs.length≤508):EB w g (fullB bs):=by refine ⟨by rw [cM hl];omega,?_⟩;rw [h.2,cM hl];unfold fullB zs;rw [aQ,List.replicate_append_replicate,show 508-bs.length+(512-508)=512-bs.length by omega]
theorem eW (w:World) (g:Nat) (cells:Array Value):Chg (λk=>k=g) w (w.setRow g cells)∧(w.setRow g cells).heap.size=w.heap.size:=by unfold World.setRow;refine ⟨⟨rfl,rfl,rfl,by simp,λk hk hn=>?_⟩,by simp⟩;simp only [Array.getElem?_modify];rw [bg (λe=>hn e.symm)]
theorem Bts.news {w:World} {a:Option Addr} {c:Nat} {bs:List UInt8} (h:Bts w a bs) (hc:a=none→c=0):News w a c bs.length (bZ bs):=by
 rcases h with rfl|⟨b,off,rfl,h2,h3⟩
 ·cases a with
  |none=>exact .inl ⟨rfl,hc rfl,rfl,rfl⟩
  |some ad=>exact .inr ⟨ad,rfl,λj u hj=>by simp [bZ] at hj⟩
 refine .inr ⟨_,rfl,λj u hj=>?_⟩;have hjl:=(ar.1 hj).1;rw [b7] at hjl;rw [iZ hjl] at hj;rw [cN,h3 j hjl];exact hj
theorem qi (n:Nat):madeCells #[.int .u8 0] n=(bZ (zs n)).toArray:=by apply Array.toList_inj.1;unfold madeCells bZ zs;rw [Array.toList_map,Array.toList_range,List.map_replicate];rw [List.eq_replicate_iff];refine ⟨by simp,λb hb=>?_⟩;obtain ⟨i,_,rfl⟩:=bV.1 hb;show (#[Value.int .u8 0])[i%1]! =_;rw [Nat.mod_one];rfl
theorem uBlk:prog.underlying 49=some (.array 512 5):=by kernel_rfl
theorem sBlk:(prog.info? 49).map (·.size)=some 512:=by kernel_rfl
theorem szByte (w:World):(sizeOf 5).run prog w= .ok 1 w:=by kernel_rfl
theorem zBlk (w:World):(zeroValue 49).run prog w= .ok (.agg (bZ (zs 512)).toArray) w:=by kernel_rfl
def bv (bs:List UInt8):Value:= .agg (bZ bs).toArray
theorem jX {P:Program} {w:World} (e:Nat→Bool) (f:Nat→Option Bool×Unit→Sem (ForInStep (Option Bool×Unit))):∀ (n k:Nat),
  (∀ i s,k≤i→i<k+n→(f i s).run P w= .ok (if e i then .yield (none,()) else .done (some false,())) w)→
  (forIn (List.range' k n) ((none:Option Bool),()) f).run P w= .ok (if (List.range' k n).all e then (none,()) else (some false,())) w
 |0,k,_=>by simp
 |n+1,k,h=>by
  have h1:=h k (none,()) (am _) (by omega);rw [List.range'_succ,List.forIn_cons,Sem.run_bind,h1,bu];cases he:e k with
  |false=>simp [he]
  |true=>have ih:=jX e f n (k+1) (λi s h2 h3=>h i s (by omega) (by omega));simp only [if_true,List.all_cons,he,Bool.true_and];exact ih
theorem rC {w:World} {bs:List UInt8} {i:Nat} (h:i<bs.length):(part 5 (bZ bs).toArray (i*1)).run prog w= .ok (.int .u8 (bs[i].toNat:Int)) w:=by
 have ha:(isAgg 5).run prog w= .ok false w:=by kernel_rfl
 have hc:(bZ bs).toArray[i]?=some (.int .u8 (bs[i].toNat:Int)):=by simp [bZ,h]
 unfold part;rw [Sem.run_bind,ha,bu];simp only [bt,if_false,Nat.mul_one,hc,Sem.run_pure]
theorem uj (w:World) (xs ys:List UInt8) (hx:xs.length=512) (hy:ys.length=512):(Op.equal 49 (bv xs) (bv ys)).run prog w= .ok (decide (xs=ys)) w:=by
 show (Op.equalIn (9999+1) 49 (.agg (bZ xs).toArray) (.agg (bZ ys).toArray)).run prog w=_;unfold Op.equalIn;simp only [Sem.run_bind,run_underlying uBlk,bu,szByte]
 have hl:=jX (P:=prog) (w:=w) (λi=>xs[i]?==ys[i]?) (λi _=>do
   let a←part 5 (bZ xs).toArray (i*1)
   let b←part 5 (bZ ys).toArray (i*1)
   let c←Op.equalIn 9999 5 a b
   if (!c)=true then pure (ForInStep.done (some false,())) else pure (ForInStep.yield (none,()))) 512 0 (λi s h1 h2=>by
  have hix:i<xs.length:=by omega
  have hiy:i<ys.length:=by omega
  simp only [Sem.run_bind,rC hix,rC hiy,bu]
  rw [run_equalIn_int w 9998 5 .u8 .u8 _ _ underlying5]
  have e1:(((xs[i].toNat:Int))==(ys[i].toNat:Int))=(xs[i]?==ys[i]?):=by
   rw [ap hix,ap hiy,Bool.eq_iff_iff]
   simp only [beq_iff_eq,bK]
   exact ⟨λh=>UInt8.toNat_inj.1 (by omega),λh=>by rw [h]⟩
  rw [e1,bu]
  cases (xs[i]?==ys[i]?)<;>rfl)
 rw [Std.Legacy.Range.forIn_eq_forIn_range'];have hd:(List.range' 0 512).all (λi=>xs[i]?==ys[i]?)=decide (xs=ys):=by rw [Bool.eq_iff_iff];simp only [List.all_eq_true,List.mem_range',bR,beq_iff_eq];constructor;intro h;apply List.ext_getElem?;intro i;by_cases hi:i<512;exact h i ⟨i,hi,by omega⟩;rw [aP (by omega),aP (by omega)];rintro rfl i-;rfl
 rw [hd] at hl;refine (congrArg (λr=>Result.andThen r _) hl).trans ?_;cases decide (xs=ys)<;>rfl
section
variable {w:World} {ops:Array Oper} {rest:List Oper} {o:Oper} {a:Act} {Q:Exit→Act→World→Prop}
theorem ui (w:World) (x y:Operand) (u v:Array Value):(eqGuard .eql 49 x y (.agg u) (.agg v)).run prog w= .ok () w:=by
 have h:prog.eqGuardType prog.depth 49=false:=by kernel_rfl
 simp [eqGuard,go_sem,h]
theorem nO (hgd:o.guard=none) (x y:Operand) (r:TypeId) (ho:o.op= .binOp .eql 49 x y r) (xs ys:List UInt8) (hx:a.eval x= .agg (bZ xs).toArray) (hy:a.eval y= .agg (bZ ys).toArray) (lx:xs.length=512) (ly:ys.length=512)
  (h:wpList prog ops Q rest (a.put o.dst (.bool (decide (xs=ys)))) w):wpList prog ops Q (o::rest) a w:=by refine wpList_plain hgd λK hK=>?_;have hr:=uj w xs ys lx ly;unfold bv at hr;unfold Oper.wp;simp [execOp,ho,hx,hy,ui,binOp,hr,Result.andThen];exact hK _ _ h
theorem oU (hgd:o.guard=none) (ho:o.op= .build 49 #[]) (h:wpList prog ops Q rest (a.put o.dst (.agg (bZ (zs 512)).toArray)) w):wpList prog ops Q (o::rest) a w:=by
 refine wpList_plain hgd λK hK=>?_;have hr:(Instr.build 49 #[]).run prog w= .ok (.agg (bZ (zs 512)).toArray) w:=by unfold Instr.build;rw [Sem.run_bind,zBlk,bu,Sem.run_bind,run_underlying uBlk,bu];simp [Instr.fill,Value.cells]
 unfold Oper.wp;simp [execOp,ho,hr,Result.andThen];exact hK _ _ h
end
end Go.Proofs.YtchbedbmjiabgaaGreatDoor
namespace Go.Proofs.YtchbedbmjiabgaaGreatDoor
open Go Go.Proofs.Tryz
section
variable {P:Program} {ops:Array Oper} {Q:Exit→Act→World→Prop} {md:Region.Mode} {S:World→Prop} {n:Nat}
def lE (P:Program) (md:Region.Mode) (ops:Array Oper) (Q:Exit→Act→World→Prop) (S:World→Prop) (n:Nat):Nat→Array Bool→Act→World→Prop
 |0,listed,a,w=>Region.ready md ops listed=[]∧Q .normal a w
 |fuel+1,listed,a,w=>
  (Region.ready md ops listed=[]→Q .normal a w)∧
  ∀ i∈Region.ready md ops listed,wpOp P ops Q i (λa' w'=>(i<n→S w')∧lE P md ops Q S n fuel (listed.setIfInBounds i true) a' w') a w
theorem kj:∀ (fuel:Nat) (listed:Array Bool) (a:Act) (w:World),lE P md ops Q S n fuel listed a w→wpAny P md ops Q fuel listed a w
 |0,_,_,_,h=>h
 |fuel+1,_,_,_,h=>⟨h.1,λi hi=>wpOp_mono (λa' w' h'=>kj fuel _ a' w' h'.2) (h.2 i hi)⟩
theorem qx {i:Nat} {oi:Oper} {v:Value} (hi:ops[i]?=some oi) (hsel:∀ (j:Nat) (o:Oper) cs b,ops[j]?=some o→o.op≠ .select cs b)
  (hs:Region.sinkB md ops n=true) (hc:Region.chainB md ops n=true) (hn:n<ops.size) (hin:i<n)
  (hQ:∀ c a w,Q (.panic c) (a.put oi.dst v) w→Q (.panic c) a w):
  ∀ (fuel:Nat) (listed:Array Bool) (a:Act) (w:World),HeadInv md ops n listed→
   (∀ j oj,ops[j]?=some oj→j≠i→listed.getD j true=false→(∀ e∈oj.after,Region.binds md e=true→e.on≠i)→oi.apart ops oj=true)→
   i∈Region.ready md ops listed→YieldsIf P ops S oi v a→S w→
   lE P md ops Q S n fuel (listed.setIfInBounds i true) (a.put oi.dst v) w→lE P md ops Q S n (fuel+1) listed a w:=by
    intro fuel;induction fuel with
    |zero=>intro listed a w inv _ hr hy hS H;refine ⟨λh=>(by rw [h] at hr;cases hr),λj hj=>?_⟩;by_cases hji:j=i;subst hji;exact hy.wpOp hi hS ⟨λ_=>hS,H⟩;have:=ready_mono hj hji;rw [H.1] at this;cases this
    |succ fuel ih=>
     intro listed a w inv hfree hr hy hS H;refine ⟨λh=>(by rw [h] at hr;cases hr),λj hj=>?_⟩;have hun:=(mem_ready.1 hr).1;(have hjn:j<n:=by rcases Nat.lt_or_ge j n with h|h;exact h;exact absurd hj (tail_waits hs hc hn inv _ i rfl hin hun j h));by_cases hji:j=i;subst hji;exact hy.wpOp hi hS ⟨λ_=>hS,H⟩
     ·have h1:=H.2 j (ready_mono hj hji);obtain ⟨hjun,oj,hoj,hall⟩:=mem_ready.1 hj;(have hnot:∀ e∈oj.after,Region.binds md e=true→e.on≠i:=λe he hb heq=>by have h1:=hall e he hb;rw [heq,getD_both hun] at h1;cases h1);have h2:=wpOp_putIf hoj (hfree j oj hoj hji hjun hnot) (λcs b=>hsel i oi cs b hi) (λcs b=>hsel j oj cs b hoj) hQ hy h1
      have hfree':∀ k ok,ops[k]?=some ok→k≠i→(listed.setIfInBounds j true).getD k true=false→
        (∀ e∈ok.after,Region.binds md e=true→e.on≠i)→oi.apart ops ok=true:=λk ok hk hki hun hno=>by
       refine hfree k ok hk hki ?_ hno
       by_cases hjk:j=k
       · subst hjk;exact hjun
       · rw [getD_set_ne true hjk] at hun;exact hun
      refine wpOp_mono (λa' w' h3=>⟨h3.2.1,ih (listed.setIfInBounds j true) a' w' (inv.set hj hjn) hfree' (ready_mono hr (Ne.symm hji)) h3.1 (h3.2.1 hjn) ?_⟩) h2;rw [Array.setIfInBounds_comm _ _ hji];exact h3.2.2
def nf (md:Region.Mode) (ops:Array Oper) (n:Nat):Bool:=
 Region.noSelect ops&&decide (n<ops.size)&&Region.sinkB md ops n&&Region.chainB md ops n
structure At (P:Program) (md:Region.Mode) (ops:Array Oper) (Q:Exit→Act→World→Prop) (S:World→Prop) (n fuel:Nat) (listed:Array Bool) (a:Act) (w:World):Prop where
 go:nf md ops n=true→HeadInv md ops n listed→lE P md ops Q S n fuel listed a w
theorem cn {id:Nat} {a:Act} {w:World} {l:List Oper} (S:World→Prop) (n:Nat) (hm:P.follows .mixedOrders=true) (hB:nf .any l.toArray n=true)
  (h:At P .any l.toArray Q S n l.length (Array.replicate l.length false) a w.drew):(Code.region id l.toArray true).wp P Q a w:=by refine wp_region_any hm (kj (n:=n) (S:=S) _ _ _ _ ?_);(have hz:l.toArray.size=l.length:=by simp);rw [hz];refine h.go hB ⟨by simp,λj oj _ hl=>(by rw [getD_replicate_false] at hl;cases hl),λt _ ht=>getD_in (by simpa using ht) (getD_replicate_false _ _)⟩
theorem dM (i:Nat) {l:List Oper} {oi:Oper} {v:Value} {fuel:Nat} {listed:Array Bool} {a:Act} {w:World} (hi:l[i]?=some oi) (hin:i<n)
  (hf:Region.free md l.toArray listed i=true) (hr:(Region.ready md l.toArray listed).contains i=true)
  (hQ:∀ c a w,Q (.panic c) (a.put oi.dst v) w→Q (.panic c) a w) (hy:YieldsIf P l.toArray S oi v a) (hS:S w)
  (h:At P md l.toArray Q S n fuel (listed.setIfInBounds i true) (a.put oi.dst v) w):At P md l.toArray Q S n (fuel+1) listed a w:=by refine ⟨λhB inv=>?_⟩;have hB':=hB;simp only [nf,Bool.and_eq_true,bR] at hB';obtain ⟨⟨⟨hsel,hn⟩,hs⟩,hc⟩:=hB';(have hr':i∈Region.ready md l.toArray listed:=by simpa using hr);(have hi':l.toArray[i]?=some oi:=by simpa using hi);exact qx hi' (Region.noSelect_spec hsel) hs hc hn hin hQ fuel listed a w inv (Region.free_spec hi' hf) hr' hy hS (h.go hB (inv.set hr' hin))
theorem aK (i:Nat) {l:List Oper} {oi:Oper} {v:Value} {fuel:Nat} {listed:Array Bool} {a:Act} {w:World}
 (hi:l[i]?=some oi) (hf:(decide (i<n)&&(Region.free md l.toArray listed i&&(Region.ready md l.toArray listed).contains i))=true)
 (hw:Region.wanted oi (yielded l.toArray a.tmps)=true) (hQ:∀ c a w,Q (.panic c) (a.put oi.dst v) w→Q (.panic c) a w) (hS:S w)
 (hy:∀ w',S w'→(execOp a.eval oi).run P w'=.ok (.value v) w')
 (h:At P md l.toArray Q S n fuel (listed.setIfInBounds i true) (a.put oi.dst v) w):At P md l.toArray Q S n (fuel+1) listed a w:=by simp only [Bool.and_eq_true,bR] at hf;exact dM i hi hf.1 hf.2.1 hf.2.2 hQ (.inl ⟨hw,hy⟩) hS h
theorem aU (i:Nat) {l:List Oper} {oi:Oper} {fuel:Nat} {listed:Array Bool} {a:Act} {w:World}
 (hi:l[i]?=some oi) (hf:(decide (i<n)&&(Region.free md l.toArray listed i&&(Region.ready md l.toArray listed).contains i))=true)
 (hw:Region.wanted oi (yielded l.toArray a.tmps)=false) (hQ:∀ c a w,Q (.panic c) (a.put oi.dst undef) w→Q (.panic c) a w) (hS:S w)
 (h:At P md l.toArray Q S n fuel (listed.setIfInBounds i true) (a.put oi.dst undef) w):At P md l.toArray Q S n (fuel+1) listed a w:=by simp only [Bool.and_eq_true,bR] at hf;exact dM i hi hf.1 hf.2.1 hf.2.2 hQ (.inr ⟨hw,rfl⟩) hS h
theorem at_only (i:Nat) {l:List Oper} {oi:Oper} {fuel:Nat} {listed:Array Bool} {a:Act} {w:World} (hi:l[i]?=some oi) (hin:i<n)
  (hr:Region.ready md l.toArray listed=[i]) (hw:Region.wanted oi (yielded l.toArray a.tmps)=true)
  (h:∀ K:Act→World→Prop,RowKit.Hid (∀ a' w',S w'→At P md l.toArray Q S n fuel (listed.setIfInBounds i true) a' w'→K a' w')→oi.wp P a w K Q):
  At P md l.toArray Q S n (fuel+1) listed a w:=by refine ⟨λhB inv=>⟨λh0=>(by rw [hr] at h0;cases h0),λj hj=>?_⟩⟩;(have hr':i∈Region.ready md l.toArray listed:=by rw [hr];simp);(have hji:j=i:=by rw [hr] at hj;simpa using hj);subst hji;(have hi':l.toArray[j]?=some oi:=by simpa using hi);unfold wpOp;simp only [hi',hw,if_true];refine .inl (h _ (Hd λa' w' hS hA=>⟨λ_=>hS,hA.go hB (inv.set hr' hin)⟩))
theorem jW:∀ (l:List Oper) (k:Nat) (listed:Array Bool) (a:Act) (w:World),n≤k→(∀ j,l[j]?=ops[k+j]?)→
  Region.seqB md ops l.length k listed=true→wpList P ops Q l a w→lE P md ops Q S n l.length listed a w
 |[],_,_,_,_,_,_,hB,h=>⟨by simpa [Region.seqB] using hB,h⟩
 |o::l,k,listed,a,w,hnk,hl,hB,h=>by
  have h0:ops[k]?=some o:=by simpa using (hl 0).symm
  simp only [aG,Region.seqB,Bool.and_eq_true,bR] at hB;refine ⟨λh1=>(by rw [hB.1] at h1;cases h1),λi hi=>?_⟩;rw [hB.1] at hi;have hik:i=k:=by simpa using hi
  subst hik;have hw:wpOp P ops Q i (wpList P ops Q l) a w:=by unfold wpOp;simp only [h0];exact h
  exact wpOp_mono (λa' w' h'=>⟨λhlt=>absurd hlt (by omega),jW l (i+1) _ a' w' (by omega) (λj=>by have:=hl (j+1);simpa [Nat.add_assoc,Nat.add_comm 1 j] using this) hB.2 h'⟩) hw
theorem aO (i:Nat) {l:List Oper} {oi:Oper} {fuel:Nat} {listed:Array Bool} {a:Act} {w:World}
 (hi:l[i]?=some oi) (hf:(decide (i<n)&&(Region.ready md l.toArray listed==[i]))=true) (hw:Region.wanted oi (yielded l.toArray a.tmps)=true)
 (h:∀ K:Act→World→Prop,RowKit.Hid (∀ a' w',S w'→At P md l.toArray Q S n fuel (listed.setIfInBounds i true) a' w'→K a' w')→oi.wp P a w K Q):
 At P md l.toArray Q S n (fuel+1) listed a w:=by simp only [Bool.and_eq_true,bR,beq_iff_eq] at hf;exact at_only i hi hf.1 hf.2 hw h
theorem cB {l:List Oper} {fuel:Nat} {listed:Array Bool} {a:Act} {w:World} (hf:fuel=(l.drop n).length) (hB:Region.seqB md l.toArray fuel n listed=true)
  (h:wpList P l.toArray Q (l.drop n) a w):At P md l.toArray Q S n fuel listed a w:=by refine ⟨λ_ _=>?_⟩;subst hf;exact jW (l.drop n) n listed a w (am _) (λj=>by simp [List.getElem?_drop]) hB h
end
end Go.Proofs.YtchbedbmjiabgaaGreatDoor
namespace Go.Proofs.YtchbedbmjiabgaaGreatDoor
open Go.RowKit Go.Proofs.Tryz
theorem j6 {P:Program} {o:Oper} {a:Act} {w:World} (ty:TypeId) (x:Operand) (ho:o.op= .load ty x)
  (g:Nat) (hx:a.eval x= .pointer (some ⟨g,0,none⟩)) (t:TypeId) (cs:Array Value) (fr:Nat×Nat) (d:TypeDesc) (hg:w.heap[g]?=some (.cells cs t fr))
  (hu:P.underlying ty=some d) (hd:(match d with| .struct _| .array _ _=>true|_=>false)=true) (hi:(P.info? ty).map (·.size)=some cs.size):(execOp a.eval o).run P w= .ok (.value (.agg cs)) w:=by unfold execOp;simp only [ho,hx,Instr.loadAt,Instr.sureAddr,Sem.run_bind,Sem.run_pure,bu,run_loadVar_row w g t ty cs fr d hg hu hd hi]
theorem MpI.up {w:World} {b n m:Nat} {f:Int→Option Value} (h:MpI w b n f) (hm:n≤m):MpI w b m f:=by obtain ⟨D,h1,h2⟩:=h;exact ⟨D,h1.mono hm,h2⟩
def kept (bs:List UInt8):Option Value:=if bs=zs 512 then none else some (bv bs)
theorem nK (g ml n:Nat) (i:Int) (bs:List UInt8) (f:Int→Option Value) (w:World) (hl:w.cell? ⟨g,1,none⟩=some (.map (some ml))) (hM:MpI w ml n f) (hn:n<maxLen) (hi:(Lit.int .i64 i).wf=true) (hb:bs.length=512):
  Calls prog 16 #[.pointer (some ⟨g,0,none⟩),.int .i64 i,.agg (bZ bs).toArray] w λx w'=>x= .returned (.tuple #[])∧MpI w' ml (n+1) (upd f i (kept bs))∧Chg (λk=>k=ml) w w':=by
   have ha:=bY w (.cells (bZ bs).toArray 49);have hg:=az w (.cells (bZ bs).toArray 49);have hz:(w.alloc (.cells (bZ bs).toArray 49)).cell? ⟨g,1,none⟩=some (.map (some ml)):=(ha.cell (p:=⟨g,1,none⟩) (fI hl)).trans hl;have HM:=Hd (hM.chg (F:=λ_=>False) (ac ha) (λf=>f));have HG:=Hd hg;(have hs:(prog.info? 49).map (·.size)=some (bZ bs).toArray.size:=by rw [bw,b7,hb];exact sBlk);have HS:=Hd hs;have HA:=Hd ha;have HB:=Hd hb;unfold kept;by_cases hzb:bs=zs 512
   ·rw [bh hzb];have HZ:=Hd hzb;clear hl hM hg hs ha hb hzb;go_enter func16,ntmps16;go_wp2_with (first|(refine wpList_load_row rfl 49 (.tmp 5) rfl w.heap.size rfl 49 _ (0,0) _ HG.out uBlk rfl HS.out ?_)|(refine oU rfl rfl ?_)|(refine nO rfl (.tmp 6) (.tmp 7) _ rfl bs (zs 512) rfl rfl HB.out (by simp [zs]) ?_;rw [bp HZ.out])|(at_delete;refine tX rfl (.tmp 12) (.tmp 13) 51 _ rfl underlying51 rfl HM.out i rfl hi ?_;intro w2 hM2 hC2));go_end0;exact ⟨rfl,hM2.up (Nat.le_succ n),(ac HA.out).trans hC2 (λ_ _ h=>h)⟩
   ·rw [bg hzb];have HZ:=Hd hzb;have HD:=Hd (show (λw':World=>w'.cell? ⟨g,1,none⟩=some (.map (some ml))∧w'.heap[w.heap.size]?=some (.cells (bZ bs).toArray 49)) (w.alloc (.cells (bZ bs).toArray 49)).drew from ⟨hz,hg⟩);clear hl hM hg hs ha hb hzb;go_enter func16,ntmps16;go_wp2_with (first|(refine wpList_load_row rfl 49 (.tmp 5) rfl w.heap.size rfl 49 _ (0,0) _ HG.out uBlk rfl HS.out ?_)|(refine oU rfl rfl ?_)|(refine nO rfl (.tmp 6) (.tmp 7) _ rfl bs (zs 512) rfl rfl HB.out (by simp [zs]) ?_;rw [bo HZ.out]));refine cn (λw':World=>w'.cell? ⟨g,1,none⟩=some (.map (some ml))∧w'.heap[w.heap.size]?=some (.cells (bZ bs).toArray 49)) 6 (by kernel_rfl) (by kernel_rfl) ?_;change At _ _ _ _ _ _ 7 #[false,false,false,false,false,false,false] _ _;refine aK 0 rfl (by kernel_rfl) rfl (λ_ _ _ h=>h) HD.out (by intro w' h;go_simp<;>with_reducible rfl) ?_;simp only [Act.put,LA,LZ,LS];refine aK 1 rfl (by kernel_rfl) rfl (λ_ _ _ h=>h) HD.out (by intro w' h;go_simp<;>with_reducible rfl) ?_;simp only [Act.put,LA,LZ,LS];refine aK 2 rfl (by kernel_rfl) rfl (λ_ _ _ h=>h) HD.out (by intro w' h;go_simp<;>with_reducible rfl) ?_;simp only [Act.put,LA,LZ,LS];refine aK 3 rfl (by kernel_rfl) rfl (λ_ _ _ h=>h) HD.out (by intro w' h;go_simp<;>with_reducible rfl) ?_;simp only [Act.put,LA,LZ,LS];refine aK 4 rfl (by kernel_rfl) rfl (λ_ _ _ h=>h) HD.out (by intro w' h;go_simp<;>with_reducible rfl) ?_;simp only [Act.put,LA,LZ,LS];refine dM 5 (v:=?_) rfl (by decide) (by kernel_rfl) (by kernel_rfl) (λ_ _ _ h=>h) (Or.inl ⟨by rfl,?_⟩) HD.out ?_;rotate_left
    ·intro w' hSw;(try dsimp only at hSw);refine (j6 49 (.tmp 5) rfl w.heap.size rfl 49 _ (0,0) _ hSw.2 uBlk rfl HS.out).trans ?_;with_reducible rfl
    simp only [Act.put,LA,LZ,LS];refine cB rfl (by kernel_rfl) ?_;simp only [aw,ax];refine gS rfl (.tmp 17) (.tmp 18) (.tmp 19) 51 _ rfl underlying51 rfl HM.out hn i rfl hi (bv bs) rfl ?_;intro w2 hM2 hC2;go_wp2_with fail;go_end0;exact ⟨rfl,hM2,(ac HA.out).drew.trans hC2 (λ_ _ h=>h)⟩
def rowD (n ml:Nat) (ws:Value) (ms:Nat) (on:Bool) (al wr sy:Int):Obj:= .cells #[.int .i64 n,.map (some ml),ws,.map (some ms),.bool on,.int .i64 al,.int .i64 wr,.int .i64 sy] 54
theorem dg {n:Nat} {ml ms:Nat} {ws:Value} {on:Bool} {al wr sy:Int} {g:Nat} {w:World} (h:w.heap[g]?=some (rowD n ml ws ms on al wr sy)):w.cell? ⟨g,0,none⟩=some (.int .i64 n)∧w.cell? ⟨g,1,none⟩=some (.map (some ml))∧w.cell? ⟨g,2,none⟩=some ws∧w.cell? ⟨g,3,none⟩=some (.map (some ms))∧w.cell? ⟨g,4,none⟩=some (.bool on)∧w.cell? ⟨g,5,none⟩=some (.int .i64 al)∧w.cell? ⟨g,6,none⟩=some (.int .i64 wr)∧w.cell? ⟨g,7,none⟩=some (.int .i64 sy)∧∀ j,w.frozen? ⟨g,j,none⟩=false:=by have hc:=λj=>bd w g j _ _ _ h;exact ⟨hc 0,hc 1,hc 2,hc 3,hc 4,hc 5,hc 6,hc 7,λj=>bq w g j _ _ h⟩
theorem setD {w:World} {g i:Nat} {cs:Array Value} {T:TypeId} (h:w.heap[g]?=some (.cells cs T)) (v:Value):(w.setCell ⟨g,i,none⟩ v).heap[g]?=some (.cells (cs.setIfInBounds i v) T):=ay w g i cs T v h
theorem lL (i:Int) {n:Nat} {ml ms:Nat} {ws:Value} {on:Bool} {al wr sy:Int} {g:Nat} {w:World} (h:w.heap[g]?=some (rowD n ml ws ms on al wr sy)):Calls prog 77 #[.pointer (some ⟨g,0,none⟩),.int .i64 i] w λx w'=>x= .returned (.bool (decide (0≤i∧i<(n:Int))))∧w=w':=by
 obtain ⟨c0,c1,c2,c3,c4,c5,c6,c7,f⟩:=dg h;by_cases h0:0≤i
 ·by_cases h1:i<(n:Int)
  ·rw [show decide (0≤i∧i<(n:Int))=true from bp ⟨h0,h1⟩];go_enter func77,ntmps77;go_wp2_with fail;go_ret;exact ⟨rfl,rfl⟩
  ·rw [show decide (0≤i∧i<(n:Int))=false from bo (λe=>h1 e.2)];go_enter func77,ntmps77;go_wp2_with fail;go_ret;exact ⟨rfl,rfl⟩
 ·rw [show decide (0≤i∧i<(n:Int))=false from bo (λe=>h0 e.1)];go_enter func77,ntmps77;go_wp2_with fail;go_ret;exact ⟨rfl,rfl⟩
theorem fG {n:Nat} {ml ms:Nat} {ws:Value} {on:Bool} {al wr sy:Int} {g:Nat} {w:World} (h:w.heap[g]?=some (rowD n ml ws ms on al wr sy)):Calls prog 32 #[.pointer (some ⟨g,0,none⟩)] w λx w'=>x= .returned (.int .i64 n)∧w=w':=by obtain ⟨c0,c1,c2,c3,c4,c5,c6,c7,f⟩:=dg h;go_enter func32,ntmps32;go_wp2_with fail;go_ret;exact ⟨rfl,rfl⟩
theorem rT {n:Nat} {ml ms:Nat} {ws:Value} {on:Bool} {al wr sy:Int} {g:Nat} {w:World} (h:w.heap[g]?=some (rowD n ml ws ms on al wr sy)):Calls prog 9 #[.pointer (some ⟨g,0,none⟩)] w λx w'=>x= .returned (.bool on)∧w=w':=by obtain ⟨c0,c1,c2,c3,c4,c5,c6,c7,f⟩:=dg h;go_enter func9,ntmps9;go_wp2_with fail;go_ret;exact ⟨rfl,rfl⟩
theorem wk {n:Nat} {ml ms:Nat} {ws:Value} {on:Bool} {al wr sy:Int} {g:Nat} {w:World} (h:w.heap[g]?=some (rowD n ml ws ms on al wr sy)):Calls prog 28 #[.pointer (some ⟨g,0,none⟩)] w λx w'=>x= .returned (.tuple #[])∧w'.heap[g]?=some (rowD n ml ws ms false (-1) wr sy)∧Chg (λk=>k=g) w w':=by obtain ⟨c0,c1,c2,c3,c4,c5,c6,c7,f⟩:=dg h;have f4:=f 4;have f5:=f 5;have H:=Hd h;clear f h;go_enter func28,ntmps28;go_wp2_with fail;go_end0;refine ⟨rfl,?_,((ae (λk=>k=g) w).setCell ⟨g,4,none⟩ _ (λ_=>rfl)).setCell ⟨g,5,none⟩ _ (λ_=>rfl)⟩;have h4:=setD (i:=4) H.out (.bool false);exact setD (i:=5) h4 (.int .i64 (-1))
theorem arm_any (k:Int) {n:Nat} {ml ms:Nat} {ws:Value} {on:Bool} {al wr sy:Int} {g:Nat} {w:World} (h:w.heap[g]?=some (rowD n ml ws ms on al wr sy)):Calls prog 7 #[.pointer (some ⟨g,0,none⟩),.int .i64 k] w λx w'=>x= .returned (.tuple #[])∧w'.heap[g]?=some (rowD n ml ws ms on (if on=true then max k (-1) else al) wr sy)∧Chg (λk=>k=g) w w':=by
 obtain ⟨c0,c1,c2,c3,c4,c5,c6,c7,f⟩:=dg h;have f5:=f 5;have H:=Hd h;clear f h;cases on
 ·rw [bg (by decide)];go_enter func7,ntmps7;go_wp2_with fail;go_end0;exact ⟨rfl,H.out,ae _ _⟩
 ·rw [bh rfl];go_enter func7,ntmps7;go_wp2_with fail;all_goals go_end0
  all_goals refine ⟨rfl,?_,(ae (λk=>k=g) w).setCell ⟨g,5,none⟩ _ (λ_=>rfl)⟩
  all_goals first
   |(rw [show max k (-1)= -1 by omega];exact setD (i:=5) H.out (.int .i64 (-1)))
   |(rw [show max k (-1)=k by omega];exact setD (i:=5) H.out (.int .i64 k))
theorem mX {al:Int} (hal: -1≤al) (hal2:al≤9223372036854775807) {n:Nat} {ml ms:Nat} {ws:Value} {on:Bool} {wr sy:Int} {g:Nat} {w:World} (h:w.heap[g]?=some (rowD n ml ws ms on al wr sy)):Calls prog 78 #[.pointer (some ⟨g,0,none⟩)] w λx w'=>x= .returned (.bool (decide (al≠0)))∧w'.heap[g]?=some (if al=0 then rowD n ml ws ms false (-1) wr sy else rowD n ml ws ms on (if 0<al then al-1 else al) wr sy)∧Chg (λk=>k=g) w w':=by
 obtain ⟨c0,c1,c2,c3,c4,c5,c6,c7,f⟩:=dg h;have f4:=f 4;have f5:=f 5;have H:=Hd h;clear f;by_cases h0:al=0
 ·subst h0;have hoff:=Hd (wk h);clear h;rw [show decide ((0:Int)≠0)=false from rfl];go_enter func78,ntmps78;go_wp2_with fail;refine hoff.out.mono ?_;rintro _ w2 ⟨rfl,hr,hc⟩;have HR:=Hd hr;have HC:=Hd hc;clear hr hc;go_wp2_with fail;go_ret;exact ⟨rfl,HR.out,HC.out⟩
 ·rw [show decide (al≠0)=true from bp h0];clear h;by_cases h1:0<al
  ·have hw:IntKind.i64.wrap (al-1)=al-1:=bD _ (by omega);go_enter func78,ntmps78;go_wp2_with fail;go_ret;refine ⟨rfl,?_,(ae (λk=>k=g) w).setCell ⟨g,5,none⟩ _ (λ_=>rfl)⟩;exact setD (i:=5) H.out (.int .i64 (al-1))
  ·(obtain rfl:al= -1:=by omega);go_enter func78,ntmps78;go_wp2_with fail;go_ret;exact ⟨rfl,H.out,ae _ _⟩
theorem Bc {n:Nat} {ml ms:Nat} {ws:Value} {on:Bool} {al wr sy:Int} {g:Nat} {w:World} (h:w.heap[g]?=some (rowD n ml ws ms on al wr sy)):Calls prog 29 #[.pointer (some ⟨g,0,none⟩)] w λx w'=>x= .returned (.tuple #[.int .i64 wr,.int .i64 sy])∧Chg (λ_=>False) w w':=by obtain ⟨c0,c1,c2,c3,c4,c5,c6,c7,f⟩:=dg h;go_enter func29,ntmps29;go_wp2_with fail;go_quiet (fail);go_wp2_with fail;go_ret2;exact ⟨rfl,(ae _ _).drewN _⟩
end Go.Proofs.YtchbedbmjiabgaaGreatDoor
