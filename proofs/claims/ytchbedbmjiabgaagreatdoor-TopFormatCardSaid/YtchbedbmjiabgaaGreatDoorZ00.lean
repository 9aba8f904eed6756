/- TopFormat, part 0 of the proof: Chg TMap Crc CrcTell Leb Byt. No condition. -/
import Derived.Test.YtchbedbmjiabgaaGreatDoorRows
import Derived.WalkSpells
import Derived.WalkLawsBesides
import Derived.Laws.AppendOwnNone
import Derived.Laws.CopyOwn
import Derived.Lib.Hide
import Derived.Handy
set_option linter.all false
set_option maxHeartbeats 16000000
set_option maxRecDepth 100000
namespace Go.Proofs.YtchbedbmjiabgaaGreatDoor
open Go.RowKit Go.Proofs.Tryz
theorem Hd {p:Prop} (h:p):RowKit.Hid p:=h
theorem LA {α:Type} (l:List α) (i:Nat) (a:α):l.toArray.setIfInBounds i a=(l.set i a).toArray:=List.setIfInBounds_toArray _ _ _
theorem LZ {α:Type} {x y:α} {xs:List α}:(x::xs).set 0 y=y::xs:=List.set_cons_zero
theorem LS {α:Type} {x y:α} {xs:List α} {i:Nat}:(x::xs).set (i+1) y=x::xs.set i y:=List.set_cons_succ
def am:=@Nat.le_refl
def an:=@Nat.lt_of_lt_of_le
def ao:=@Nat.le_trans
def ap:=@List.getElem?_eq_getElem
def aq:=@List.length_append
def ar:=@List.getElem?_eq_some_iff
def au:=@List.getD_eq_getElem?_getD
def av:=@List.take_of_length_le
def aw:=@List.drop_succ_cons
def ax:=@List.drop_zero
def ay:=@heap_setCell_same
def az:=@heap_alloc_new
def aA:=@Below.refl
def aB:=@List.length_map
def aC:=@List.length_take
def aD:=@List.mem_of_getElem?
def aG:=@List.length_cons
def aH:=@List.length_replicate
def aI:=@List.take_succ_cons
def aJ:=@List.take_zero
def aL:=@List.length_drop
def aM:=@List.getElem?_append_left
def aN:=@List.getElem?_append_right
def aP:=@List.getElem?_eq_none
def aQ:=@List.append_assoc
def aR:=@List.length_nil
def aS:=@Nat.le_of_eq
def aV:=@Nat.zero_le
def aW:=@List.map_append
def aX:=@World.size_alloc
def aY:=@List.getElem?_map
def aZ:=@List.cons_append
def a7:=@List.nil_append
def a8:=@Option.some.inj
def a9:=@List.map_cons
def bd:=@cell_of_row
def bg:=@if_neg
def bh:=@if_pos
def bj:=@Array.getElem?_eq_some_iff
def bm:=@List.take_add_one
def bo:=@decide_eq_false
def bp:=@decide_eq_true
def bq:=@frozen_of_row
def br:=@beq_eq_false_iff_ne
def bt:=@Bool.false_eq_true
def bu:=@Result.andThen_ok
def bw:=@List.size_toArray
def bA:=@Option.getD_some
def bB:=@Below.heap_setCell
def bC:=@List.append_nil
def bD:=@IntWalk.i64_in
def bE:=@List.mem_append
def bF:=@List.length_eq_zero_iff
def bG:=@List.take_append_of_le_length
def bH:=@List.mem_singleton
def bI:=@List.getElem?_take_of_lt
def bJ:=@Array.getElem?_eq_none
def bK:=@Option.some.injEq
def bL:=@List.take_append_drop
def bM:=@List.length_singleton
def bN:=@List.drop_eq_nil_of_le
def bO:=@bne_iff_ne
def bP:=@Nat.zero_add
def bQ:=@Nat.lt_of_le_of_lt
def bR:=@decide_eq_true_eq
def bS:=@List.mem_cons_of_mem
def bT:=@List.drop_drop
def bU:=@List.mem_cons
def bV:=@List.mem_map
def bW:=@List.getElem?_of_mem
def bX:=@of_decide_eq_true
structure Chg (F:Nat→Prop) (w w':World):Prop where
 os:w'.os=w.os
 tape:w'.tape=w.tape
 output:w'.output=w.output
 size:w.heap.size≤w'.heap.size
 block:∀ k,k<w.heap.size→¬ F k→w'.heap[k]?=w.heap[k]?
theorem Chg.refl (F:Nat→Prop) (w:World):Chg F w w:=⟨rfl,rfl,rfl,am _,λ_ _ _=>rfl⟩
theorem Chg.trans {F G:Nat→Prop} {a b c:World} (h:Chg F a b) (k:Chg G b c) (hG:∀ i,i<a.heap.size→G i→F i):Chg F a c:=
 ⟨k.os.trans h.os,k.tape.trans h.tape,k.output.trans h.output,ao h.size k.size,λi hi hF=>(k.block i (an hi h.size) (λg=>hF (hG i hi g))).trans (h.block i hi hF)⟩
theorem Chg.mono {F G:Nat→Prop} {a b:World} (h:Chg F a b) (hG:∀ i,i<a.heap.size→F i→G i):Chg G a b:=⟨h.os,h.tape,h.output,h.size,λi hi hn=>h.block i hi λf=>hn (hG i hi f)⟩
theorem Chg.of_below {F:Nat→Prop} {a b:World} (h:Below a.heap.size a b):Chg F a b:=⟨h.os,h.tape,h.output,h.size,λi hi _=>h.block i hi⟩
theorem Chg.below {F:Nat→Prop} {a b:World} (h:Chg F a b) {B:Nat} (hB:B≤a.heap.size) (hF:∀ k,F k→B≤k):Below B a b:=
 ⟨h.os,h.tape,h.output,h.size,λi hi=>h.block i (by omega) λf=>by have:=hF i f;omega⟩
theorem Chg.alloc {F:Nat→Prop} {a b:World} (h:Chg F a b) (o:Obj):Chg F a (b.alloc o):=h.trans (Chg.of_below ((aA _ _).alloc (am _) o) (F:=λ_=>False)) (λ_ _ f=>f.elim)
theorem Chg.drew {F:Nat→Prop} {a b:World} (h:Chg F a b):Chg F a b.drew:=⟨h.os,h.tape,h.output,h.size,h.block⟩
theorem Chg.drewN {F:Nat→Prop} {a b:World} (h:Chg F a b) (n:Nat):Chg F a (b.drewN n):=⟨h.os,h.tape,h.output,h.size,h.block⟩
theorem Chg.set (w:World) (p:Addr) (v:Value):Chg (λk=>k=p.block) w (w.setCell p v):=
 ⟨rfl,rfl,rfl,by simp [World.setCell],λk _ hn=>bB _ _ _ _ hn⟩
theorem Chg.setCell {F:Nat→Prop} {a b:World} (h:Chg F a b) (p:Addr) (v:Value) (hp:p.block<a.heap.size→F p.block):Chg F a (b.setCell p v):=
 h.trans (Chg.set b p v) (λi hi e=>by subst e;exact hp hi)
theorem Chg.grown {F:Nat→Prop} {a b c:World} {row:Option Nat} (h:Chg F a b) (hg:b.grownBy c row) (hr:∀ k,k<a.heap.size→row=some k→F k):Chg F a c:=
 h.trans (G:=λk=>row=some k) ⟨hg.os,hg.tape,hg.output,hg.size,λk hk hn=>hg.block k hk λe=>hn e.symm⟩ hr
theorem Chg.cell {F:Nat→Prop} {a b:World} (h:Chg F a b) {p:Addr} (hp:p.block<a.heap.size) (hn:¬ F p.block):b.cell? p=a.cell? p:=World.cell?_of_block (h.block p.block hp hn)
theorem Chg.frozen {F:Nat→Prop} {a b:World} (h:Chg F a b) {p:Addr} (hp:p.block<a.heap.size) (hn:¬ F p.block):b.frozen? p=a.frozen? p:=World.frozen?_of_block (h.block p.block hp hn)
structure Elt where
 (t e:TypeId) (size bytes:Nat) (z:Value)
 (hu:prog.underlying t=some (.slice e))
 (hi:(prog.info? e).map (λi=>(i.zero,i.size,i.bytes))=some (some z,size,bytes))
 (hz:z.cells.size=size)
 (h0:0<size)
def blk (oa:Option Addr):Option Nat:=oa.map (·.block)
def OR (E:Elt) (w:World) (oa:Option Addr) (cap n:Nat) (cs:List Value):Prop:=w.ownsRow 0 E.e E.size (.slice oa n cap) n cs
theorem OR.nil (E:Elt) (w:World):OR E w none 0 0 []:=World.ownsRow_nil w 0 E.e E.size
theorem OR.form {E:Elt} {w:World} {oa:Option Addr} {cap n:Nat} {cs:List Value} (h:OR E w oa cap n cs):
  cs.length=n*E.size∧((oa=none∧cap=0∧n=0∧cs=[])∨∃ g,oa=some ⟨g,0,none⟩∧g<w.heap.size∧n≤cap∧cap≤maxLen∧∃ rest:List Value,w.heap[g]?=some (.cells (cs++rest).toArray E.e)∧(cs++rest).length=cap*E.size):=by obtain ⟨h1,h2⟩:=h;refine ⟨h1,?_⟩;rcases h2 with ⟨h2,h3⟩|⟨g,cap',cur,hv,_,hh,r1,r2,r3,r4⟩;simp only [Value.slice.injEq] at h2;obtain ⟨rfl,rfl,rfl⟩:=h2;exact .inl ⟨rfl,rfl,rfl,bF.1 (by simpa using h1)⟩;simp only [Value.slice.injEq] at hv;obtain ⟨rfl,_,rfl⟩:=hv;refine .inr ⟨g,rfl,?_,r1,r2,cur.toList.drop (n*E.size),?_,?_⟩;rcases Nat.lt_or_ge g w.heap.size with hlt|hge;exact hlt;rw [bJ hge] at hh;cases hh;rw [hh,←r4,bL];rw [←r4,bL,Array.length_toList,r3]
theorem OR.mk {E:Elt} {w:World} {g cap n:Nat} {cs rest:List Value} (h1:cs.length=n*E.size) (h2:n≤cap) (h3:cap≤maxLen) (h4:w.heap[g]?=some (.cells (cs++rest).toArray E.e)) (h5:(cs++rest).length=cap*E.size):OR E w (some ⟨g,0,none⟩) cap n cs:=
 ⟨h1,.inr ⟨g,cap,(cs++rest).toArray,rfl,aV _,h4,h2,h3,by simpa using h5,by simp [←h1]⟩⟩
theorem OR.lt {E:Elt} {w:World} {oa:Option Addr} {cap n:Nat} {cs:List Value} (h:OR E w oa cap n cs):∀ k,blk oa=some k→k<w.heap.size:=by intro k hk;rcases h.form.2 with ⟨rfl,_⟩|⟨g,rfl,hg,_⟩;simp [blk] at hk;simp [blk] at hk;omega
theorem OR.chg {E:Elt} {F:Nat→Prop} {w w':World} {oa:Option Addr} {cap n:Nat} {cs:List Value} (h:OR E w oa cap n cs) (hc:Chg F w w') (hn:∀ k,blk oa=some k→¬ F k):OR E w' oa cap n cs:=by obtain ⟨h1,h2⟩:=h.form;rcases h2 with ⟨rfl,rfl,rfl,rfl⟩|⟨g,rfl,hg,h3,h4,rest,h5,h6⟩;exact OR.nil E w';exact OR.mk h1 h3 h4 ((hc.block g hg (hn g rfl)).trans h5) h6
theorem OR.cell {E:Elt} {w:World} {oa:Option Addr} {cap n:Nat} {cs:List Value} (h:OR E w oa cap n cs) {j:Nat} {u:Value} (hj:cs[j]?=some u):∃ g,oa=some ⟨g,0,none⟩∧w.cell? ⟨g,j,none⟩=some u∧w.frozen? ⟨g,j,none⟩=false:=by rcases h.form.2 with ⟨_,_,_,rfl⟩|⟨g,rfl,hg,_,_,rest,h5,_⟩;simp at hj;refine ⟨g,rfl,?_,by simp [World.frozen?,h5]⟩;have hl:=(ar.1 hj).1;rw [bd w g j _ _ _ h5];simp [aM hl,hj]
theorem OR.set {E:Elt} {w:World} {g cap n:Nat} {cs:List Value} (h:OR E w (some ⟨g,0,none⟩) cap n cs) (j:Nat) (u:Value) (hj:j<cs.length):OR E (w.setCell ⟨g,j,none⟩ u) (some ⟨g,0,none⟩) cap n (cs.set j u):=by obtain ⟨h1,h2⟩:=h.form;rcases h2 with ⟨h2,_⟩|⟨g',h2,hg,h3,h4,rest,h5,h6⟩;cases h2;cases h2;refine OR.mk (rest:=rest) (by simpa using h1) h3 h4 ?_ (by simpa using h6);rw [setCell_eq_setRow w g j _ E.e (0,0) u h5,setRow_heap w g _ _ E.e (0,0) h5];congr 2;simp [List.set_append_left _ _ hj]
theorem OR.made (E:Elt) (w:World) (cs:List Value) (n:Nat) (h1:cs.length=n*E.size) (hm:n≤maxLen):OR E (w.alloc (.cells cs.toArray E.e)) (some ⟨w.heap.size,0,none⟩) n n cs:=
 OR.mk (rest:=[]) h1 (am _) hm (by rw [bC];exact az w _) (by simpa using h1)
def News (w:World) (a:Option Addr) (c m:Nat) (news:List Value):Prop:=(a=none∧c=0∧m=0∧news=[])∨∃ ad,a=some ad∧∀ j u,news[j]?=some u→w.cell? (ad.add j)=some u
theorem cg (E:Elt) {ops:Array Oper} {rest:List Oper} {o:Oper} {a:Act} {w:World} {Q:Exit→Act→World→Prop} (hgd:o.guard=none) (s x:Operand)
  (ho:o.op= .call {callee:= .builtin .append,args:=#[s,x],argTypes:=#[E.t,E.t]})
  {oa:Option Addr} {cap n:Nat} {cs:List Value} (hs:a.eval s= .slice oa n cap) (hown:OR E w oa cap n cs)
  {xa:Option Addr} {m c:Nat} {news:List Value} (hx:a.eval x= .slice xa m c) (hl:news.length=m*E.size) (hnews:News w xa c m news) (h1:∀ u∈news,u.oneCell'=true)
  (hbytes:(n+m)*E.bytes≤140737488355328) (h63:n+m≤140737488355328)
  (h:∀ oa' cap' w',OR E w' oa' cap' (n+m) (cs++news)→Chg (λk=>blk oa=some k) w w'→(blk oa'=blk oa∨blk oa'=some w.heap.size)→(oa'=none↔oa=none∧m=0)→wpList prog ops Q rest (a.put o.dst (.slice oa' (n+m) cap')) w'):
  wpList prog ops Q (o::rest) a w:=by
   obtain ⟨i0,hi,hz0,hz1,hz2⟩:=info_parts E.hi;rcases hnews with ⟨rfl,rfl,rfl,rfl⟩|⟨ad,rfl,hn⟩;refine wpList_append_own_none hgd s x E.t ho 0 E.e i0 E.size E.hu hi (.slice oa n cap) n cs hs hown hx ?_;have:=h oa cap w (by simpa using hown) (Chg.refl _ _) (.inl rfl) (by simp);simpa using this
   ·refine wpList_plain hgd λK hK=>?_;obtain ⟨v',w',hr,h2,h3,h4,h5⟩:=run_append_own_at (P:=prog) w 0 E.t o.type E.e i0 E.z E.size E.bytes E.hu hi hz0 hz1 hz2 E.hz E.h0 (.slice oa n cap) n cs hown ad m c news hl hn h1 (by unfold maxLen;omega) hbytes (aV _);(have hb:(Value.slice oa n cap).ownBlock=blk oa:=by cases oa<;>rfl);unfold Oper.wp execOp;simp only [ho,resolve,invoke,builtin,Sem.run_bind,Sem.run_pure,bu,List.map_toArray,a9,List.map_nil,hs,hx,hr];refine hK _ _ ?_;(have hf:∃ oa' cap',v'= .slice oa' (n+m) cap':=by rcases h2.2 with ⟨rfl,h0⟩|⟨g,cap',cur,rfl,_⟩;exact ⟨none,0,by rw [h0]⟩;exact ⟨_,_,rfl⟩);obtain ⟨oa',cap',rfl⟩:=hf;(have hb':(Value.slice oa' (n+m) cap').ownBlock=blk oa':=by cases oa'<;>rfl);refine h oa' cap' w' h2 ⟨h3.os,h3.tape,h3.output,h3.size,λk hk hn=>h3.block k hk (by rw [hb];exact λe=>hn e.symm)⟩ (by rw [hb,hb'] at h5;exact h5) ?_;have hO:OR E w oa cap n cs:=hown;have hO':OR E w' oa' cap' (n+m) (cs++news):=h2;constructor;rintro rfl;rcases hO'.form.2 with ⟨_,rfl,h0,_⟩|⟨g,h0,_⟩;have:=h4.1 (by rw [h0]);simp only [Value.slice.injEq] at this;exact ⟨this.1.1,this.2⟩;cases h0;rintro ⟨rfl,rfl⟩;rcases hO.form.2 with ⟨_,rfl,rfl,rfl⟩|⟨g,h0,_⟩;have:=h4.2 ⟨rfl,rfl⟩;simp only [Value.slice.injEq] at this;exact this.1;cases h0
def ac:=@Chg.of_below
def ae:=@Chg.refl
def af:=@Chg.set
def ai:=@OR.cell
def aj:=@OR.chg
def ak:=@OR.nil
end Go.Proofs.YtchbedbmjiabgaaGreatDoor
namespace Go.Proofs.YtchbedbmjiabgaaGreatDoor
open Go.Maps Go.RowKit Go.Proofs.Tryz
def RV:Value→Option (DataW Value×List MemPlace):=λv=>some (.held v,[])
def upd (f:Int→Option Value) (k:Int) (v:Option Value):Int→Option Value:=λj=>if j=k then v else f j
def kI (k:Int):Lit:= .int .i64 k
def MpI (w:World) (b n:Nat) (f:Int→Option Value):Prop:=
 ∃ D:DataW Value,w.ownsMap prog 3 RV b n D∧∀ k:Int,Maps.has D (kI k)=(f k).isSome∧∀ v,f k=some v→∀ z,D.atKey (kI k) z= .held v
theorem lawI:Keyed prog 3:=int_keyed underlying3
theorem keyI {k:Int} (h:(Lit.int .i64 k).wf=true):keyOf prog 3 (.int .i64 k)=some (kI k):=keyOf_int_mk underlying3 h
theorem qW {j k:Int} (h:j≠k):kI j≠kI k:=λe=>h (by injection e)
theorem MpI.made (w:World):MpI (w.alloc (.map #[] 0)) w.heap.size 0 (λ_=>none):=
 ⟨.map [],World.ownsMap_made w _ _ _,λk=>⟨rfl,λv h=>by cases h⟩⟩
theorem MpI.kept {w w':World} {b n:Nat} {f:Int→Option Value} {row:Option Nat} (h:MpI w b n f) (hg:w.grownBy w' row) (hne:some b≠row):MpI w' b n f:=by obtain ⟨D,h1,h2⟩:=h;exact ⟨D,h1.kept hg hne,h2⟩
theorem MpI.chg {F:Nat→Prop} {w w':World} {b n:Nat} {f:Int→Option Value} (h:MpI w b n f) (hc:Chg F w w') (hb:¬ F b):MpI w' b n f:=by obtain ⟨D,⟨es,clock,hh,r⟩,h2⟩:=h;exact ⟨D,⟨es,clock,(hc.block b (bj.1 hh).1 hb).trans hh,r⟩,h2⟩
theorem MpI.lt {w:World} {b n:Nat} {f:Int→Option Value} (h:MpI w b n f):b<w.heap.size:=by obtain ⟨D,h1, -⟩:=h;exact h1.lt
theorem MpI.put {D:DataW Value} {f:Int→Option Value} (hD:IsMap D) (h:∀ k:Int,Maps.has D (kI k)=(f k).isSome∧∀ v,f k=some v→∀ z,D.atKey (kI k) z= .held v) (k:Int) (v:Value):
  ∀ j:Int,Maps.has (D.put (kI k) (.held v)) (kI j)=(upd f k (some v) j).isSome∧∀ u,upd f k (some v) j=some u→∀ z,(D.put (kI k) (.held v)).atKey (kI j) z= .held u:=by intro j;unfold upd;by_cases e:j=k;subst e;rw [bh rfl];refine ⟨has_put_same hD ?_ _,λu hu z=>?_⟩;trivial;cases hu;exact atKey_put_same hD (by trivial) _ _;rw [bg e];exact ⟨(has_put_other (qW e) _).trans (h j).1,λu hu z=>(atKey_put_other (qW e) _ _).trans ((h j).2 u hu z)⟩
theorem MpI.del {D:DataW Value} {f:Int→Option Value} (h:∀ k:Int,Maps.has D (kI k)=(f k).isSome∧∀ v,f k=some v→∀ z,D.atKey (kI k) z= .held v) (k:Int):
  ∀ j:Int,Maps.has (D.del (kI k)) (kI j)=(upd f k none j).isSome∧∀ u,upd f k none j=some u→∀ z,(D.del (kI k)).atKey (kI j) z= .held u:=by intro j;unfold upd;by_cases e:j=k;subst e;rw [bh rfl];exact ⟨has_del_same,λu hu=>by cases hu⟩;rw [bg e];exact ⟨(has_del_other (qW e)).trans (h j).1,λu hu z=>(atKey_del_other (qW e) _).trans ((h j).2 u hu z)⟩
section
variable {w:World} {ops:Array Oper} {rest:List Oper} {o:Oper} {a:Act} {Q:Exit→Act→World→Prop} {b n:Nat} {f:Int→Option Value}
theorem gT (hg:o.guard=none) (m x:Operand) (t e:TypeId) (c:Bool) (hop:o.op=Op.lookup t m x c) (ht:prog.underlying t=some (.map 3 e)) {z:Value} (hz:(zeroValue e).run prog w= .ok z w)
  (hm:a.eval m= .map (some b)) (h:MpI w b n f) (k:Int) (hx:a.eval x= .int .i64 k) (hk:(Lit.int .i64 k).wf=true)
  (hK:wpList prog ops Q rest (a.put o.dst (if c then .tuple #[(f k).getD z,.bool (f k).isSome] else (f k).getD z)) w):wpList prog ops Q (o::rest) a w:=by
   obtain ⟨D,h1,h2⟩:=h
   have hv:∀ (v:Value) (ps:List MemPlace),RV v=some (D.atKey (kI k) (.held z),ps)→v=(f k).getD z:=by
    intro v ps hv;have h3:DataW.held v=D.atKey (kI k) (.held z):=congrArg Prod.fst (a8 hv);obtain ⟨h4,h5⟩:=h2 k;cases hf:f k with
    |none=>rw [hf] at h4;rw [atKey_of_not_has h4] at h3;injection h3
    |some u=>rw [h5 u hf] at h3;injection h3
   cases c with
   |true=>refine wpList_lookup_own_ok w hg m x t hop 3 e lawI ht RV hz (.held z) [] rfl b n D hm h1 _ (kI k) hx (keyI hk) λv ps hr=>?_;rw [hv v ps hr,(h2 k).1];exact hK
   |false=>refine wpList_plain hg λK' hK'=>?_;obtain ⟨v,ps,hrun,hr⟩:=h1.lookup lawI ht hz (zd:= .held z) (zp:=[]) rfl (keyI hk);unfold Oper.wp;simp [execOp,hop,hm,hx,hrun,Result.andThen];rw [hv v ps hr];exact hK' _ _ hK
theorem gS (hg:o.guard=none) (m x v:Operand) (t e:TypeId) (hop:o.op=Op.mapUpdate t m x v) (ht:prog.underlying t=some (.map 3 e)) (hm:a.eval m= .map (some b)) (h:MpI w b n f) (hn:n<maxLen)
  (k:Int) (hx:a.eval x= .int .i64 k) (hk:(Lit.int .i64 k).wf=true) (u:Value) (hv:a.eval v=u)
  (hK:∀ w',MpI w' b (n+1) (upd f k (some u))→Chg (λj=>j=b) w w'→wpList prog ops Q rest (a.put o.dst undef) w'):wpList prog ops Q (o::rest) a w:=by obtain ⟨D,h1,h2⟩:=h;refine wpList_mapUpdate_own w hg m x v t hop 3 e lawI ht RV b n D hm h1 hn _ u (kI k) hx hv (keyI hk) (.held u) [] rfl λw' h3 h4=>?_;exact hK w' ⟨_,h3,MpI.put h1.isMap h2 k u⟩ ((ae (λj=>j=b) w).grown h4 (λj _ e=>(a8 e).symm))
theorem tX (hg:o.guard=none) (m x:Operand) (t e:TypeId) (hop:o.op=Op.call {callee:=Callee.builtin Builtin.delete,args:=#[m,x],argTypes:=#[t,3]}) (ht:prog.underlying t=some (.map 3 e))
  (hm:a.eval m= .map (some b)) (h:MpI w b n f) (k:Int) (hx:a.eval x= .int .i64 k) (hk:(Lit.int .i64 k).wf=true)
  (hK:∀ w',MpI w' b n (upd f k none)→Chg (λj=>j=b) w w'→wpList prog ops Q rest (a.put o.dst (.tuple #[])) w'):wpList prog ops Q (o::rest) a w:=by obtain ⟨D,h1,h2⟩:=h;refine wpList_delete_own w hg m x t 3 hop e lawI ht RV b n D hm h1 _ (kI k) hx (keyI hk) λw' h3 h4=>?_;exact hK w' ⟨_,h3,MpI.del h2 k⟩ ((ae (λj=>j=b) w).grown h4.grown (λj _ e=>(a8 e).symm))
end
end Go.Proofs.YtchbedbmjiabgaaGreatDoor
namespace Go.Proofs.YtchbedbmjiabgaaGreatDoor.Crc
open Go.Proofs.Tryz
def stp (w:Nat):Nat:=if w%2=1 then (w/2)^^^2197175160 else w/2
def stps:Nat→Nat→Nat
 |0,w=>w
 |k+1,w=>stps k (stp w)
theorem AR (a b:Nat):(a^^^b)/2=a/2^^^b/2:=by have:=Nat.shiftRight_xor_distrib (a:=a) (b:=b) (i:=1);simpa [Nat.shiftRight_eq_div_pow] using this
theorem k8 (x c:Nat):x^^^c^^^c=x:=by rw [Nat.xor_assoc,Nat.xor_self,Nat.xor_zero]
theorem stp_xor (a b:Nat):stp (a^^^b)=stp a^^^stp b:=by unfold stp;have hm:=Nat.xor_mod_two_eq_one (a:=a) (b:=b);rw [AR];by_cases ha:a%2=1<;>by_cases hb:b%2=1<;>simp only [hm,ha,hb,if_true,if_false,not_true,not_false_iff,iff_true,iff_false,eq_self];rw [Nat.xor_assoc,←Nat.xor_assoc 2197175160,Nat.xor_comm 2197175160 (b/2),k8];rw [Nat.xor_assoc,Nat.xor_assoc,Nat.xor_comm 2197175160 (b/2)];rw [Nat.xor_assoc]
theorem uc (k:Nat):stps k 0=0:=by induction k with
 |zero=>rfl
 |succ k ih=>exact ih
theorem nu (k a b:Nat):stps k (a^^^b)=stps k a^^^stps k b:=by
 induction k generalizing a b with
 |zero=>rfl
 |succ k ih=>simp only [stps];rw [stp_xor,ih]
theorem nw (a b w:Nat):stps (a+b) w=stps b (stps a w):=by
 induction a generalizing w with
 |zero=>simp [stps]
 |succ a ih=>rw [Nat.add_right_comm];simp only [stps];exact ih _
theorem tI {w:Nat} (h:w<4294967296):stp w<4294967296:=by unfold stp;split;exact Nat.xor_lt_two_pow (n:=32) (by omega) (by omega);omega
theorem stps_lt (k:Nat) {w:Nat} (h:w<4294967296):stps k w<4294967296:=by
 induction k generalizing w with
 |zero=>exact h
 |succ k ih=>exact ih (tI h)
theorem zU (w:Nat):stp (2*w)=w:=by unfold stp;rw [bg (by omega)];omega
theorem km (k w:Nat):stps k (2^k*w)=w:=by
 induction k generalizing w with
 |zero=>simp [stps]
 |succ k ih=>simp only [stps];rw [show 2^(k+1)*w=2*(2^k*w) from by rw [Nat.pow_succ];rw [Nat.mul_comm (2^k) 2,Nat.mul_assoc],zU,ih]
theorem split16 (w:Nat):w=(16*(w/16))^^^(w%16):=by
 have h:16*(w/16)^^^(w%16)=16*(w/16)+w%16:=by
  have:=(Nat.two_pow_add_eq_or_of_lt (i:=4) (b:=w%16) (by omega) (w/16)).symm;rw [show (2:Nat)^4=16 from rfl] at this;rw [←this];apply Nat.eq_of_testBit_eq;intro i;rw [Nat.testBit_xor,Nat.testBit_or];by_cases hi:i<4
  ·(have:(16*(w/16)).testBit i=false:=by rw [show 16*(w/16)=2^4*(w/16) from rfl,Nat.testBit_two_pow_mul];simp;omega);simp [this]
  ·(have:(w%16).testBit i=false:=by rw [show 16=2^4 from rfl,Nat.testBit_mod_two_pow];simp;omega);simp [this]
 rw [h];omega
theorem stps4 (w:Nat):stps 4 w=(w/16)^^^stps 4 (w%16):=by
 conv=>lhs;rw [split16 w]
 rw [nu];congr 1;exact km 4 (w/16)
theorem stps8 (w:Nat):stps 8 w=stps 4 (stps 4 w):=nw 4 4 w
def eig (w:Nat):Nat:=stps 8 w
theorem eig_eq (w:Nat):eig w=stps 8 w:=rfl
attribute [irreducible] eig
def on (w:Nat):List UInt8→Nat
 |[]=>w
 |b::l=>on (eig (w^^^b.toNat)) l
theorem xK (w:Nat) (a b:List UInt8):on w (a++b)=on (on w a) b:=by
 induction a generalizing w with
 |nil=>rfl
 |cons x a ih=>exact ih _
theorem on_lt {w:Nat} (h:w<4294967296) (l:List UInt8):on w l<4294967296:=by
 induction l generalizing w with
 |nil=>exact h
 |cons x l ih=>have hx:=x.toNat_lt;have h2:w^^^x.toNat<4294967296:=Nat.xor_lt_two_pow (n:=32) h (by omega);refine ih ?_;rw [eig_eq];exact stps_lt 8 h2
theorem on_snoc (w:Nat) (l:List UInt8) (x:UInt8):on w (l++[x])=eig (on w l^^^x.toNat):=by rw [xK];rfl
def le:List UInt8→Nat
 |[]=>0
 |b::l=>b.toNat+256*le l
theorem nr (b D:Nat) (h:b<256):b+256*D=b^^^(256*D):=by
 have:=(Nat.two_pow_add_eq_or_of_lt (i:=8) (b:=b) (by omega) D);rw [show (2:Nat)^8=256 from rfl] at this;rw [Nat.add_comm,this];apply Nat.eq_of_testBit_eq;intro i;rw [Nat.testBit_xor,Nat.testBit_or];by_cases hi:i<8
 ·have:(256*D).testBit i=false:=by rw [show 256*D=2^8*D from rfl,Nat.testBit_two_pow_mul];simp;omega
  simp [this]
 have:b.testBit i=false:=Nat.testBit_lt_two_pow (by have:2^8≤2^i:=Nat.pow_le_pow_right (by omega) (by omega);omega);simp [this]
theorem on_cons (w:Nat) (b:UInt8) (l:List UInt8):on w (b::l)=on (eig (w^^^b.toNat)) l:=rfl
theorem kO (b:UInt8) (l:List UInt8):le (b::l)=b.toNat+256*le l:=rfl
theorem wY (x:Nat):stps 8 (256*x)=x:=km 8 x
theorem e3 (w:Nat) (b:UInt8) (D:Nat):stps 8 (w^^^(b.toNat+256*D))=stps 8 (w^^^b.toNat)^^^D:=by
 have hb:=b.toNat_lt;have e2:w^^^(b.toNat+256*D)=(w^^^b.toNat)^^^(256*D):=by rw [nr _ _ (by omega),Nat.xor_assoc]
 rw [e2];exact (nu 8 _ _).trans (congrArg _ (wY _))
theorem on_le (w:Nat) (l:List UInt8):on w l=stps (8*l.length) (w^^^le l):=by
 induction l generalizing w with
 |nil=>exact (Nat.xor_zero w).symm
 |cons b l ih=>
  have e:8*(b::l).length=8+8*l.length:=by rw [aG];omega
  rw [e,nw,kO,e3,on_cons,ih,eig_eq]
def back (v:Nat):Nat:=if 2147483648≤v then 2*(v^^^2197175160)+1 else 2*v
theorem sj {w:Nat} (h:w<4294967296):back (stp w)=w:=by
 unfold back stp;split
 ·rename_i ho;have h2:w/2<2147483648:=by omega
  have hbit:(w/2^^^2197175160).testBit 31=true:=by rw [Nat.testBit_xor,Nat.testBit_lt_two_pow (x:=w/2) (i:=31) h2];decide
  have hge:2147483648≤w/2^^^2197175160:=Nat.ge_two_pow_of_testBit hbit;rw [bh hge,k8];omega
 rw [bg (by omega)];omega
theorem stp_inj {a b:Nat} (ha:a<4294967296) (hb:b<4294967296) (h:stp a=stp b):a=b:=by rw [←sj ha,←sj hb,h]
theorem zT (k:Nat) {a b:Nat} (ha:a<4294967296) (hb:b<4294967296) (h:stps k a=stps k b):a=b:=by
 induction k generalizing a b with
 |zero=>exact h
 |succ k ih=>exact stp_inj ha hb (ih (tI ha) (tI hb) h)
def no (w:Nat):Nat:=4294967295^^^w
theorem no_eq (w:Nat):no w=4294967295^^^w:=rfl
attribute [irreducible] no
theorem no_lt {w:Nat} (h:w<4294967296):no w<4294967296:=by rw [no_eq];exact Nat.xor_lt_two_pow (n:=32) (by omega) h
theorem no_no (w:Nat):no (no w)=w:=by rw [no_eq,no_eq,←Nat.xor_assoc,Nat.xor_self,Nat.zero_xor]
def ofs (l:List UInt8):Nat:=no (on 4294967295 l)
theorem ofs_lt (l:List UInt8):ofs l<4294967296:=no_lt (on_lt (by omega) l)
theorem sR (a b n:Nat):(a^^^b)*2^n=a*2^n^^^b*2^n:=by have:=Nat.shiftLeft_xor_distrib (a:=a) (b:=b) (i:=n);simpa [Nat.shiftLeft_eq] using this
theorem uL (a b:Nat):256*(a^^^b)=256*a^^^256*b:=by have:=sR a b 8;rw [show (2:Nat)^8=256 from rfl] at this;rw [Nat.mul_comm 256,Nat.mul_comm 256,Nat.mul_comm 256];exact this
theorem le_set:∀ (l:List UInt8) (i:Nat) (x:UInt8),i<l.length→le (l.set i (l.getD i 0^^^x))=le l^^^(x.toNat*256^i)
 |[],i,x,h=>by simp at h
 |b::l,0,x,_=>by
  have hb:=b.toNat_lt
  have hx:=(b^^^x).toNat_lt
  have e:(b::l).getD 0 0=b:=rfl
  rw [List.set_cons_zero,e,kO,kO,nr _ _ (by omega),nr _ _ (by omega),Nat.pow_zero,Nat.mul_one]
  rw [UInt8.toNat_xor,Nat.xor_assoc,Nat.xor_assoc,Nat.xor_comm x.toNat]
 |b::l,i+1,x,h=>by
  have hb:=b.toNat_lt
  have e:(b::l).getD (i+1) 0=l.getD i 0:=by simp [au]
  have ih:=le_set l i x (by simpa using h)
  rw [List.set_cons_succ,kO,kO,e,ih,nr _ _ (by omega),nr _ _ (by omega),uL,←Nat.xor_assoc]
  congr 1
  rw [Nat.pow_succ,Nat.mul_comm (256^i) 256,←Nat.mul_assoc,←Nat.mul_assoc,Nat.mul_comm x.toNat 256]
theorem tells {b c:List UInt8} {m f:Nat} (hm:m<4294967296) (h0:m≠0) (hl:c.length=b.length) (hf:f<8*b.length) (hle:le c=le b^^^(m*2^f)):ofs b≠ofs c:=by
 intro he;have h1:on 4294967295 b=on 4294967295 c:=by have e1:∀ l,no (ofs l)=on 4294967295 l:=λl=>no_no _;rw [←e1,←e1,he]
 rw [on_le,on_le,hl,hle,←Nat.xor_assoc,nu _ (4294967295^^^le b)] at h1;have h2:stps (8*b.length) (m*2^f)=0:=by have:=congrArg (λx=>stps (8*b.length) (4294967295^^^le b)^^^x) h1;simp only [←Nat.xor_assoc,Nat.xor_self,Nat.zero_xor] at this;exact this.symm
 have h3:8*b.length=f+(8*b.length-f):=by omega
 rw [h3,nw,Nat.mul_comm m,km] at h2;have h4:stps (8*b.length-f) m=stps (8*b.length-f) 0:=by rw [h2,uc]
 exact h0 (zT _ hm (by omega) h4)
end Go.Proofs.YtchbedbmjiabgaaGreatDoor.Crc
namespace Go.Proofs.YtchbedbmjiabgaaGreatDoor
open Go.Proofs.Tryz
def leb:Nat→Nat→List UInt8
 |0,_=>[]
 |k+1,n=>UInt8.ofNat (n%256)::leb k (n/256)
theorem cd (k n:Nat):(leb k n).length=k:=by
 induction k generalizing n with
 |zero=>rfl
 |succ k ih=>simp [leb,ih]
theorem kN (k n j:Nat) (h:j<k):(leb k n)[j]?=some (UInt8.ofNat (n/256^j%256)):=by
 induction k generalizing n j with
 |zero=>omega
 |succ k ih=>
  cases j with
  |zero=>simp [leb]
  |succ j=>rw [leb,List.getElem?_cons_succ,ih _ _ (by omega),Nat.div_div_eq_div_mul,Nat.pow_succ,Nat.mul_comm 256]
theorem nj (n:Nat):((UInt8.ofNat (n%256)).toNat:Int)=(n:Int)%256:=by rw [UInt8.toNat_ofNat'];omega
def unle:List UInt8→Nat
 |[]=>0
 |b::t=>b.toNat+256*unle t
theorem lK (l:List UInt8) (b:UInt8):unle (l++[b])=unle l+b.toNat*256^l.length:=by
 induction l with
 |nil=>simp [unle]
 |cons c l ih=>simp only [aZ,unle,ih,aG,Nat.pow_succ];rw [Nat.mul_add,Nat.add_assoc];congr 2;rw [Nat.mul_left_comm,Nat.mul_comm 256]
theorem dV (l:List UInt8):unle l<256^l.length:=by
 induction l with
 |nil=>simp [unle]
 |cons c l ih=>simp only [unle,aG,Nat.pow_succ];have:=c.toNat_lt;omega
theorem nE (x b i:Nat) (hx:x<256^i):x|||(b*256^i)=x+b*256^i:=by rw [show 256=2^8 by rfl,←Nat.pow_mul] at*;rw [Nat.mul_comm b,Nat.or_comm,←Nat.two_pow_add_eq_or_of_lt hx,Nat.add_comm]
theorem qe (x b j:Nat) (hj:j<8) (hx:x<256^j) (hb:b<256):bits .or .u64 (x:Int) (IntKind.u64.wrap (IntKind.u64.wrap (b:Int)*2^(8*j)))=((x+b*256^j:Nat):Int):=by
 have hp:(256:Nat)^j*256≤18446744073709551616:=by rw [←Nat.pow_succ,show 18446744073709551616=256^8 by rfl];exact Nat.pow_le_pow_right (by decide) (by omega)
 have h1:b*256^j<18446744073709551616:=by have h2:(b+1)*256^j≤256*256^j:=Nat.mul_le_mul_right _ (by omega);have h3:0<256^j:=Nat.pow_pos (by decide);rw [Nat.add_mul] at h2;omega
 have e0:(2:Int)^(8*j)=((256^j:Nat):Int):=by rw [show (256:Nat)=2^8 by rfl,←Nat.pow_mul];simp
 have e1:IntKind.u64.wrap (IntKind.u64.wrap (b:Int)*2^(8*j))=((b*256^j:Nat):Int):=by
  have e2:IntKind.u64.wrap (b:Int)=(b:Int):=by rw [IntKind.wrap_u64];exact Int.emod_eq_of_lt (by omega) (by omega)
  rw [e2,e0,←Int.natCast_mul,IntKind.wrap_u64];exact Int.emod_eq_of_lt (by omega) (by omega)
 rw [e1,bits_or_u64_nat _ _ (by omega) h1,nE _ _ _ hx]
theorem gr (l:List UInt8) (j:Nat) (hj:j<l.length) (h8:j<8):bits .or .u64 ((unle (l.take j):Nat):Int) (IntKind.u64.wrap (IntKind.u64.wrap ((l[j]?.getD 0).toNat:Int)*2^(8*j)))=((unle (l.take (j+1)):Nat):Int):=by
 have hl:(l.take j).length=j:=by rw [aC];omega
 have h:=dV (l.take j);rw [hl] at h;rw [qe _ _ j h8 h (UInt8.toNat_lt _),bm,ap hj];simp only [Option.toList_some,bA,lK,hl]
def fullB (b:List UInt8):List UInt8:=b++List.replicate (508-b.length) 0
def summed (b:List UInt8):List UInt8:=b++leb 4 (Crc.ofs b)
theorem cM {b:List UInt8} (h:b.length≤508):(fullB b).length=508:=by simp [fullB];omega
theorem eS (b:List UInt8):(summed b).length=b.length+4:=by simp [summed,cd]
def fld (bs:List UInt8) (o k:Nat):Nat:=unle ((bs.drop o).take k)
theorem eO (k n:Nat) (h:n<256^k):unle (leb k n)=n:=by
 induction k generalizing n with
 |zero=>simp at h;subst h;rfl
 |succ k ih=>rw [leb,unle,ih _ (by rw [Nat.pow_succ] at h;exact Nat.div_lt_of_lt_mul (by rw [Nat.mul_comm];exact h)),UInt8.toNat_ofNat'];omega
theorem gD (x y:List UInt8) (o k:Nat):fld (x++y) (x.length+o) k=fld y o k:=by unfold fld;rw [List.drop_append,bN (by omega),a7];congr 3;omega
theorem fld_at (k n:Nat) (y:List UInt8) (h:n<256^k):fld (leb k n++y) 0 k=n:=by unfold fld;rw [ax,bG (by rw [cd];exact am _),av (by rw [cd];exact am _),eO k n h]
theorem cH (j m:Nat) (y:List UInt8) (o k:Nat) (h:j≤o):fld (leb j m++y) o k=fld y (o-j) k:=by have:=gD (leb j m) y (o-j) k;rw [cd,Nat.add_sub_cancel' h] at this;exact this
theorem cU (n:Nat) (h:n≤9223372036854775807):IntKind.i64.wrap (n:Int)=(n:Int):=by simp [IntKind.wrap,IntKind.signed,IntKind.bits];omega
theorem iV (b:List UInt8) (h:b.length=508):unle ((summed b).drop 508)=Crc.ofs ((summed b).take 508):=by rw [summed,List.drop_append_of_le_length (by omega),bG (by omega),List.drop_of_length_le (by omega),av (by omega),a7,eO _ _ (Crc.ofs_lt _)]
theorem pW {a x:UInt8} (h:x≠0):a^^^x≠a:=by intro e;apply h;have:=congrArg (a^^^·) e;simpa [←UInt8.xor_assoc] using this
theorem iz {a b:List UInt8} (hl:a.length=b.length) (h:unle a=unle b):a=b:=by
 induction a generalizing b with
 |nil=>cases b with
  |nil=>rfl
  |cons y b=>simp at hl
 |cons x a ih=>cases b with
  |nil=>simp at hl
  |cons y b=>
   simp only [unle] at h
   have hx:=x.toNat_lt
   have hy:=y.toNat_lt
   have e1:x.toNat=y.toNat:=by omega
   have e2:unle a=unle b:=by omega
   rw [UInt8.toNat_inj.1 e1,ih (by simpa using hl) e2]
theorem nJ (xs:List UInt8):leb xs.length (unle xs)=xs:=iz (cd _ _) (eO _ _ (dV xs))
theorem pC {xs:List UInt8} {k:Nat} (h:xs.length=k):leb k (unle xs)=xs:=h▸nJ xs
end Go.Proofs.YtchbedbmjiabgaaGreatDoor
namespace Go.Proofs.YtchbedbmjiabgaaGreatDoor
open Go.RowKit Go.Proofs.Tryz
theorem qd {k:IntKind} {a b:Int} (h:a=b):Ending.returned (.int k a)= .returned (.int k b):=by rw [h]
theorem cN (b o i:Nat):(⟨b,o,none⟩:Addr).add i=⟨b,o+i,none⟩:=by unfold Addr.add;split<;>simp_all
def Bts (w:World) (a:Option Addr) (bs:List UInt8):Prop:=
 bs=[]∨∃ b off,a=some ⟨b,off,none⟩∧b<w.heap.size∧∀ i,i<bs.length→w.cell? ⟨b,off+i,none⟩=some (.int .u8 ((bs.getD i 0).toNat:Int))
theorem Bts.below {w w':World} {a:Option Addr} {bs:List UInt8} (h:Bts w a bs) (hb:Below w.heap.size w w'):Bts w' a bs:=by rcases h with h|⟨b,off,h1,h2,h3⟩;exact .inl h;exact .inr ⟨b,off,h1,an h2 hb.size,λi hi=>(hb.cell (p:=⟨b,off+i,none⟩) h2).trans (h3 i hi)⟩
theorem Bts.chg {F:Nat→Prop} {w w':World} {a:Option Addr} {bs:List UInt8} (h:Bts w a bs) (hc:Chg F w w') (hn:∀ k,blk a=some k→¬ F k):Bts w' a bs:=by rcases h with h|⟨b,off,rfl,h2,h3⟩;exact .inl h;exact .inr ⟨b,off,rfl,an h2 hc.size,λi hi=>(hc.cell (p:=⟨b,off+i,none⟩) h2 (hn b rfl)).trans (h3 i hi)⟩
theorem Bts.at {w:World} {a:Option Addr} {bs:List UInt8} (h:Bts w a bs) {k:Nat} (hk:k<bs.length):∃ b off,a=some ⟨b,off,none⟩∧b<w.heap.size∧w.cell? ⟨b,off+k,none⟩=some (.int .u8 ((bs.getD k 0).toNat:Int)):=by rcases h with rfl|⟨b,off,h1,h2,h3⟩;simp at hk;exact ⟨b,off,h1,h2,h3 k hk⟩
theorem wT {bs:List UInt8} {k:Nat} (h:k<bs.length):bs.take (k+1)=bs.take k++[bs.getD k 0]:=by rw [List.take_succ_eq_append_getElem h,au,ap h];rfl
def bZ (bs:List UInt8):List Value:=bs.map λb=>Value.int .u8 (b.toNat:Int)
theorem b7 (bs:List UInt8):(bZ bs).length=bs.length:=by simp [bZ]
theorem j9 (a b:List UInt8):bZ (a++b)=bZ a++bZ b:=by simp [bZ]
theorem iZ {bs:List UInt8} {i:Nat} (h:i<bs.length):(bZ bs)[i]?=some (.int .u8 ((bs.getD i 0).toNat:Int)):=by simp [bZ,aY,ap h,au]
theorem vC (bs:List UInt8) (i:Nat) (b:UInt8):(bZ bs).set i (.int .u8 (b.toNat:Int))=bZ (bs.set i b):=by simp [bZ,List.map_set]
theorem cE (bs:List UInt8):∀ u∈bZ bs,u.oneCell'=true:=by intro u hu;simp only [bZ,bV] at hu;obtain ⟨b,_,rfl⟩:=hu;rfl
def eB:Elt:={t:=24,e:=5,size:=1,bytes:=1,z:= .int .u8 0,hu:=underlying24,hi:=by kernel_rfl,hz:=rfl,h0:=by decide}
def OB (w:World) (oa:Option Addr) (cap:Nat) (bs:List UInt8):Prop:=OR eB w oa cap bs.length (bZ bs)
theorem OB.nil (w:World):OB w none 0 []:=ak eB w
theorem OB.lt {w:World} {oa:Option Addr} {cap:Nat} {bs:List UInt8} (h:OB w oa cap bs):∀ k,blk oa=some k→k<w.heap.size:=OR.lt h
theorem OB.chg {F:Nat→Prop} {w w':World} {oa:Option Addr} {cap:Nat} {bs:List UInt8} (h:OB w oa cap bs) (hc:Chg F w w') (hn:∀ k,blk oa=some k→¬ F k):OB w' oa cap bs:=aj h hc hn
theorem OB.below {w w':World} {oa:Option Addr} {cap:Nat} {bs:List UInt8} (h:OB w oa cap bs) (hb:Below w.heap.size w w'):OB w' oa cap bs:=h.chg (F:=λ_=>False) (ac hb) (λ_ _ f=>f)
theorem OB.none_cap {w:World} {oa:Option Addr} {cap:Nat} {bs:List UInt8} (h:OB w oa cap bs) (hn:oa=none):cap=0∧bs=[]:=by rcases OR.form h with ⟨h1,⟨_,h2,h3,_⟩|⟨g,h2,_⟩⟩;exact ⟨h2,bF.1 h3⟩;rw [hn] at h2;cases h2
theorem OB.bts {w:World} {oa:Option Addr} {cap:Nat} {bs:List UInt8} (h:OB w oa cap bs):Bts w oa bs:=by rcases (OR.form h).2 with ⟨_,_,h0,_⟩|⟨g,rfl,hg,_⟩;exact .inl (bF.1 h0);refine .inr ⟨g,0,rfl,hg,λi hi=>?_⟩;obtain ⟨g',he,hc,_⟩:=ai h (iZ hi);cases he;rw [bP];exact hc
theorem OB.cell {w:World} {g cap:Nat} {bs:List UInt8} (h:OB w (some ⟨g,0,none⟩) cap bs) {i:Nat} (hi:i<bs.length):w.cell? ⟨g,i,none⟩=some (.int .u8 ((bs.getD i 0).toNat:Int))∧w.frozen? ⟨g,i,none⟩=false:=by obtain ⟨g',he,hc,hf⟩:=ai h (iZ hi);cases he;exact ⟨hc,hf⟩
theorem OB.set {w:World} {g cap:Nat} {bs:List UInt8} (h:OB w (some ⟨g,0,none⟩) cap bs) {i:Nat} (hi:i<bs.length) (b:UInt8):OB (w.setCell ⟨g,i,none⟩ (.int .u8 (b.toNat:Int))) (some ⟨g,0,none⟩) cap (bs.set i b):=by have h1:=OR.set h i (.int .u8 (b.toNat:Int)) (by rw [b7];exact hi);rw [vC] at h1;unfold OB;rw [List.length_set];exact h1
theorem OB.made (w:World) (bs:List UInt8) (hm:bs.length≤maxLen):OB (w.alloc (.cells (bZ bs).toArray 5)) (some ⟨w.heap.size,0,none⟩) bs.length bs:=
 OR.made eB w (bZ bs) bs.length (by rw [b7];exact (Nat.mul_one _).symm) hm
theorem OB.cap {w:World} {oa:Option Addr} {cap:Nat} {bs:List UInt8} (h:OB w oa cap bs):bs.length≤cap∧cap≤maxLen:=by rcases (OR.form h).2 with ⟨_,rfl,h0,_⟩|⟨g,_,_,h1,h2,_⟩;exact ⟨by omega,aV _⟩;exact ⟨h1,h2⟩
theorem cJ {ops:Array Oper} {rest:List Oper} {o:Oper} {a:Act} {w:World} {Q:Exit→Act→World→Prop} (hgd:o.guard=none) (s x:Operand)
  (ho:o.op= .call {callee:= .builtin .append,args:=#[s,x],argTypes:=#[24,24]})
  {oa:Option Addr} {cap n:Nat} {bs:List UInt8} (hn:n=bs.length) (hs:a.eval s= .slice oa n cap) (hown:OB w oa cap bs)
  {xa:Option Addr} {m c:Nat} {xs:List UInt8} (hm:m=xs.length) (hx:a.eval x= .slice xa m c) (hxs:Bts w xa xs) (hc:xa=none→c=0) (hlen:n+m≤140737488355328)
  (h:∀ oa' cap' w',OB w' oa' cap' (bs++xs)→Chg (λk=>blk oa=some k) w w'→(blk oa'=blk oa∨blk oa'=some w.heap.size)→(oa'=none↔oa=none∧m=0)→wpList prog ops Q rest (a.put o.dst (.slice oa' (n+m) cap')) w'):
  wpList prog ops Q (o::rest) a w:=by
   subst hn;subst hm;refine cg eB hgd s x ho hs hown hx (news:=bZ xs) (by rw [b7];exact (Nat.mul_one _).symm) ?_ (cE xs) (by show (bs.length+xs.length)*1≤_;omega) hlen ?_
   ·rcases hxs with rfl|⟨b,off,rfl,_,h3⟩
    ·cases hxa:xa with
     |none=>exact .inl ⟨rfl,hc hxa,rfl,rfl⟩
     |some ad=>exact .inr ⟨ad,rfl,λj u hj=>by simp [bZ] at hj⟩
    refine .inr ⟨_,rfl,λj u hj=>?_⟩;have hjl:=(ar.1 hj).1;rw [b7] at hjl;rw [cN,h3 j hjl,←iZ hjl];exact hj
   intro oa' cap' w' h1 h2 h3 h4;refine h oa' cap' w' ?_ h2 h3 h4;unfold OB;rw [aq,j9];exact h1
def ag:=@OB.below
def ah:=@OB.nil
end Go.Proofs.YtchbedbmjiabgaaGreatDoor
