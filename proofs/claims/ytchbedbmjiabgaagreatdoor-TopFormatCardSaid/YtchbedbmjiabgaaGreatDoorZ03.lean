/- TopFormat, part 3 of the proof: TRead Sup Wr WrAdd WrPut. No condition. -/
import Derived.Test.YtchbedbmjiabgaaGreatDoorZ02
set_option linter.all false
set_option maxHeartbeats 16000000
set_option maxRecDepth 100000
namespace Go.Proofs.YtchbedbmjiabgaaGreatDoor
open Go.RowKit Go.Proofs.Tryz
section
variable {w:World} {ops:Array Oper} {rest:List Oper} {o:Oper} {a:Act} {Q:Exit→Act→World→Prop} {b n:Nat} {f:Int→Option Value}
theorem qu (hg:o.guard=none) (m x:Operand) (t e:TypeId) (hop:o.op=Op.lookup t m x true) (ht:prog.underlying t=some (.map 3 e)) {z:Value} (hz:(zeroValue e).run prog w= .ok z w)
  (hm:a.eval m= .map (some b)) (h:MpI w b n f) (k:Int) (hx:a.eval x= .int .i64 k) (hk:(Lit.int .i64 k).wf=true) {u:Value} (hf:f k=some u) (hK:wpList prog ops Q rest (a.put o.dst (.tuple #[u,.bool true])) w):wpList prog ops Q (o::rest) a w:=by refine gT hg m x t e true hop ht hz hm h k hx hk ?_;rw [hf];exact hK
theorem qv (hg:o.guard=none) (m x:Operand) (t e:TypeId) (hop:o.op=Op.lookup t m x true) (ht:prog.underlying t=some (.map 3 e)) {z:Value} (hz:(zeroValue e).run prog w= .ok z w)
  (hm:a.eval m= .map (some b)) (h:MpI w b n f) (k:Int) (hx:a.eval x= .int .i64 k) (hk:(Lit.int .i64 k).wf=true) (hf:f k=none) (hK:wpList prog ops Q rest (a.put o.dst (.tuple #[z,.bool false])) w):wpList prog ops Q (o::rest) a w:=by refine gT hg m x t e true hop ht hz hm h k hx hk ?_;rw [hf];exact hK
theorem lg (hg:o.guard=none) (m x:Operand) (t e:TypeId) (hop:o.op=Op.lookup t m x false) (ht:prog.underlying t=some (.map 3 e)) {z:Value} (hz:(zeroValue e).run prog w= .ok z w)
  (hm:a.eval m= .map (some b)) (h:MpI w b n f) (k:Int) (hx:a.eval x= .int .i64 k) (hk:(Lit.int .i64 k).wf=true) {u:Value} (hf:(f k).getD z=u) (hK:wpList prog ops Q rest (a.put o.dst u) w):wpList prog ops Q (o::rest) a w:=by refine gT hg m x t e false hop ht hz hm h k hx hk ?_;rw [hf];exact hK
theorem ip (hgd:o.guard=none) (ho:o.op= .alloc 49) (h:∀ w',w'.heap[w.heap.size]?=some (.cells (bZ (zs 512)).toArray 49)→Below w.heap.size w w'→wpList prog ops Q rest (a.put o.dst (.pointer (some ⟨w.heap.size,0,none⟩))) w'):wpList prog ops Q (o::rest) a w:=by
 refine wpList_plain hgd λK hK=>?_;have hr:(Instr.alloc 49 true (.tuple #[])).run prog w= .ok (.pointer (some ⟨w.heap.size,0,none⟩)) (w.alloc (.cells (bZ (zs 512)).toArray 49)):=by unfold Instr.alloc;rw [Sem.run_bind,zBlk,bu];simp [go_sem,newVar,newRow,Value.cells]
 unfold Oper.wp;simp [execOp,ho,hr,Result.andThen];exact hK _ _ (h _ (az w _) (bY w _))
theorem jx (hgd:o.guard=none) (x y:Operand) (ho:o.op= .store 49 x y) (g:Nat) (hx:a.eval x= .pointer (some ⟨g,0,none⟩)) (old bs:List UInt8) (hy:a.eval y= .agg (bZ bs).toArray) (hg:w.heap[g]?=some (.cells (bZ old).toArray 49)) (lo:old.length=512) (lb:bs.length=512)
  (h:∀ w',w'.heap[g]?=some (.cells (bZ bs).toArray 49)→Chg (λk=>k=g) w w'→wpList prog ops Q rest (a.put o.dst undef) w'):wpList prog ops Q (o::rest) a w:=by refine wpList_store_row hgd 49 x y ho g _ hx hy 49 _ hg (by rw [bw,b7,lb];exact sBlk) (by simp [b7,lo,lb]) (Array.all_eq_true_iff_forall_mem.2 (λv hv=>cE bs v (by simpa using hv))) ?_;exact h _ (setRow_heap w g _ _ _ (0,0) hg) (eW _ _ _).1
end
def lF (sh la:Int→Option (List UInt8)) (i:Int):List UInt8:=match sh i with
 |some b=>b
 |none=>(la i).getD (zs 512)
theorem rltT {w:World} {p:Nat} {o:Obj} (h:w.heap[p]?=some o):p<w.heap.size:=by rcases Nat.lt_or_ge p w.heap.size with h1|h1;exact h1;rw [bJ h1] at h;cases h
theorem dH (w:World):(Instr.makeSlice 24 (.int .i64 512) (.int .i64 512)).run prog w= .ok (.slice (some ⟨w.heap.size,0,none⟩) 512 512) (w.alloc (.cells (bZ (zs 512)).toArray 5)):=by obtain ⟨i0,hi,hz0,hz1,hz2⟩:=info_parts eB.hi;have h:=run_make (P:=prog) (w:=w) 24 5 i0 (.int .u8 0) eB.hu hi hz0 .i64 .i64 512 512 (by decide) (by decide) (by rw [hz2];decide) (by decide);rw [h,hz1];rw [show (512:Int).toNat*eB.size=512 from rfl,show (Value.int IntKind.u8 0).cells=#[.int .u8 0] from rfl,qi];rfl
theorem sz1:(prog.info? 5).map (·.size)=some 1:=by kernel_rfl
theorem srcB {w:World} {g:Nat} {bs:List UInt8} {T:TypeId} (h:w.heap[g]?=some (.cells (bZ bs).toArray T)):∀ j v,(bZ bs)[j]?=some v→w.cell? ((⟨g,0,none⟩:Addr).add j)=some v:=by intro j v hv;rw [cN,bd _ _ _ _ _ _ h,bP];simpa using hv
theorem zz {w:World} {g:Nat} {bs:List UInt8} (hl:bs.length=512) (h:w.heap[g]?=some (.cells (splice (bZ (zs 512)) 0 (bZ bs)).toArray 5)):OB w (some ⟨g,0,none⟩) 512 bs:=by
 have e:splice (bZ (zs 512)) 0 (bZ bs)=bZ bs:=by unfold splice;rw [aJ,a7,bN (by rw [b7,b7,hl];decide),bC]
 rw [e] at h;exact OR.mk (rest:=[]) (by rw [b7];exact (Nat.mul_one _).symm) (aS hl) (by decide) (by rw [bC];exact h) (by rw [bC,b7,hl];rfl)
def RdD (bs:List UInt8) (w:World) (x:Ending) (w':World):Prop:=∃ a c,x= .returned (.tuple #[.slice a 512 c,.int .i64 0])∧OB w' a c bs∧(∀ k,blk a=some k→w.heap.size≤k)∧Below w.heap.size w w'
theorem nB (i:Int) {n ml ms N1 N2 g:Nat} {ws:Value} {al wr sy:Int} {w:World} {sh la:Int→Option (List UInt8)} (h:w.heap[g]?=some (rowD n ml ws ms true al wr sy)) (hs:MpI w ms N1 (λk=>(sh k).map bv)) (hl:MpI w ml N2 (λk=>(la k).map bv)) (h5:∀ k b,sh k=some b→b.length=512) (h6:∀ k b,la k=some b→b.length=512) (h0:0≤i) (h1:i<(n:Int)) (hi:(Lit.int .i64 i).wf=true):
  Calls prog 55 #[.pointer (some ⟨g,0,none⟩),.int .i64 i] w (RdD (lF sh la i) w):=by
   have Cf:=Hd (lL i h);rw [show decide (0≤i∧i<(n:Int))=true from bp ⟨h0,h1⟩] at Cf;have Gg:=Hd hs;have GH:=Hd hl;have H:=Hd h;have hmk:=dH;obtain ⟨c0,c1,c2,c3,c4,c5,c6,c7, -⟩:=dg h;unfold RdD lF;cases hsi:sh i with
   |some b=>have Dx:=Hd (h5 i b hsi);have F8:=Hd (show (λk=>(sh k).map bv) i=some (.agg (bZ b).toArray) by show (sh i).map bv=_;rw [hsi];rfl);clear h hs hl h5 h6 hsi h0 h1;go_enter func55,ntmps55;go_wp2_with fail;refine Cf.out.mono ?_;rintro _ wx ⟨rfl,rfl⟩;go_wp2_with (first|(at_lookup;refine qu rfl (.tmp 24) (.tmp 25) 51 49 rfl underlying51 (zBlk _) rfl Gg.out i rfl hi F8.out ?_)|(refine ip rfl rfl ?_;intro wA hA hbA;have HA:=Hd hA;have CH:=Hd hbA;clear hA hbA)|(refine jx rfl (.tmp 6) (.tmp 27) rfl w.heap.size rfl (zs 512) b rfl HA.out (by simp [zs]) Dx.out ?_;intro wB hB hcB;have HB:=Hd hB;have Cc:=Hd (CH.out.trans (hcB.below CH.out.size (λk e=>aS e.symm)));obtain ⟨c0,c1,c2,c3,c4,c5,c6,c7, -⟩:=dg ((Cc.out.block g (rltT H.out)).trans H.out);clear hB hcB)|(refine wpList_copy_splice rfl (.tmp 38) (.tmp 39) 24 24 rfl 5 underlying24 sz1 _ _ 512 512 512 512 rfl rfl wB.heap.size 0 (bZ (zs 512)) 5 (az wB _) (bZ b) (by rw [b7];exact Dx.out) (λ_=>⟨rfl,_,rfl,srcB ((heap_alloc_old wB _ (rltT HB.out)).trans HB.out)⟩) (by rw [b7,b7,Dx.out,zs,aH];decide) (cE b) w.heap.size w (Cc.out.trans ((bY wB _).mono Cc.out.size)) Cc.out.size ?_;intro wD hD hbD;have HFIN:=Hd (show OB wD (some ⟨wB.heap.size,0,none⟩) 512 b from zz Dx.out hD.out);have HBD:=Hd (And.intro hbD Cc.out.size);clear hD hbD));go_ret2;exact ⟨_,_,rfl,HFIN.out,λk e=>by cases e;exact HBD.out.2,HBD.out.1⟩
   |none=>
    obtain ⟨u,hu⟩:∃ u,(la i).getD (zs 512)=u:=⟨_,rfl⟩
    have HLU:=Hd (show u.length=512 by
     rw [←hu];cases hl:la i with
     |none=>simp [zs]
     |some b=>exact h6 i b hl)
    have F8:=Hd (show (λk=>(sh k).map bv) i=none by show (sh i).map bv=_;rw [hsi];rfl);have HLI:=Hd (show ((λk=>(la k).map bv) i).getD (.agg (bZ (zs 512)).toArray)= .agg (bZ u).toArray by show ((la i).map bv).getD _=_;rw [←hu];cases la i<;>rfl);simp only [hu];clear h hs hl h5 h6 hsi h0 h1 hu;go_enter func55,ntmps55;go_wp2_with fail;refine Cf.out.mono ?_;rintro _ wx ⟨rfl,rfl⟩;go_wp2_with (first|(at_lookup;refine qv rfl (.tmp 24) (.tmp 25) 51 49 rfl underlying51 (zBlk _) rfl Gg.out i rfl hi F8.out ?_)|(refine ip rfl rfl ?_;intro wA hA hbA;have HA:=Hd hA;have CH:=Hd hbA;clear hA hbA)|(refine jx rfl (.tmp 6) (.tmp 27) rfl w.heap.size rfl (zs 512) (zs 512) rfl HA.out (by simp [zs]) (by simp [zs]) ?_;intro wB hB hcB;have HB:=Hd hB;have Cc:=Hd (CH.out.trans (hcB.below CH.out.size (λk e=>aS e.symm)));obtain ⟨c0,c1,c2,c3,c4,c5,c6,c7, -⟩:=dg ((Cc.out.block g (rltT H.out)).trans H.out);have GI:=Hd (GH.out.chg (F:=λ_=>False) (ac Cc.out) (λf=>f));clear hB hcB)|(at_lookup;refine lg rfl (.tmp 34) (.tmp 35) 51 49 rfl underlying51 (zBlk _) rfl GI.out i rfl hi HLI.out ?_)|(refine jx rfl (.tmp 6) (.tmp 36) rfl w.heap.size rfl (zs 512) u rfl HB.out (by simp [zs]) HLU.out ?_;intro wE hE hcE;have HE:=Hd hE;have Cc:=Hd (Cc.out.trans (hcE.below Cc.out.size (λk e=>aS e.symm)));clear hE hcE)|(refine wpList_copy_splice rfl (.tmp 38) (.tmp 39) 24 24 rfl 5 underlying24 sz1 _ _ 512 512 512 512 rfl rfl wE.heap.size 0 (bZ (zs 512)) 5 (az wE _) (bZ u) (by rw [b7];exact HLU.out) (λ_=>⟨rfl,_,rfl,srcB ((heap_alloc_old wE _ (rltT HE.out)).trans HE.out)⟩) (by rw [b7,b7,HLU.out,zs,aH];decide) (cE u) w.heap.size w (Cc.out.trans ((bY wE _).mono Cc.out.size)) Cc.out.size ?_;intro wD hD hbD;have HFIN:=Hd (show OB wD (some ⟨wE.heap.size,0,none⟩) 512 u from zz HLU.out hD.out);have HBD:=Hd (And.intro hbD Cc.out.size);clear hD hbD));go_ret2;exact ⟨_,_,rfl,HFIN.out,λk e=>by cases e;exact HBD.out.2,HBD.out.1⟩
end Go.Proofs.YtchbedbmjiabgaaGreatDoor
namespace Go.Proofs.YtchbedbmjiabgaaGreatDoor.Wi.Su
open Go.ChangeAt Go.ChangeShapes Go.RowKit Go.WideShapes Go.Proofs.Tryz
def i64ok (x:Int):Prop:= -9223372036854775808≤x∧x≤9223372036854775807
structure RT where
 (id root height items:Int)
 deriving DecidableEq
structure CF where
 (blocks clones refs:Int)
 deriving DecidableEq
structure SP where
 (gen:Int) (cf:CF) (next:Int) (roots:List RT)
 deriving DecidableEq
structure RtIn (w:World) (b off:Nat) (x:RT):Prop where
 c0:w.cell? ⟨b,off,none⟩=some (.int .i64 x.id)
 c1:w.cell? ⟨b,off+1,none⟩=some (.int .i64 x.root)
 c2:w.cell? ⟨b,off+2,none⟩=some (.int .i64 x.height)
 c3:w.cell? ⟨b,off+3,none⟩=some (.int .i64 x.items)
def RT.ok (x:RT):Prop:=i64ok x.id∧i64ok x.root∧i64ok x.height∧i64ok x.items
def RtsAt (B:Nat) (w:World) (a:Option Addr) (xs:List RT):Prop:=
 xs=[]∨∃ b off,a=some ⟨b,off,none⟩∧b<B∧∀ i x,xs[i]?=some x→RtIn w b (off+i*4) x
def spv (s:SP) (a:Option Addr) (cap:Nat):Value:=
 .agg #[.int .i64 s.gen,.int .i64 s.cf.blocks,.int .i64 s.cf.clones,.int .i64 s.cf.refs,.int .i64 s.next,.slice a s.roots.length cap]
structure SpAt (B:Nat) (w:World) (s:SP) (a:Option Addr) (cap:Nat):Prop where
 rts:RtsAt B w a s.roots
 rok:∀ x∈s.roots,x.ok
 len:s.roots.length≤1000000000000000
 inil:a=none→cap=0
 g:i64ok s.gen
 b:i64ok s.cf.blocks
 c:i64ok s.cf.clones
 r:i64ok s.cf.refs
 n:i64ok s.next
theorem RtIn.below {B b off:Nat} {w w':World} {x:RT} (h:RtIn w b off x) (hb:b<B) (hc:Below B w w'):RtIn w' b off x:=by have e:∀ k,w'.cell? ⟨b,k,none⟩=w.cell? ⟨b,k,none⟩:=λk=>hc.cell (p:=⟨b,k,none⟩) hb;exact ⟨(e _).trans h.c0,(e _).trans h.c1,(e _).trans h.c2,(e _).trans h.c3⟩
theorem RtsAt.below {B:Nat} {w w':World} {a:Option Addr} {xs:List RT} (h:RtsAt B w a xs) (hc:Below B w w'):RtsAt B w' a xs:=by rcases h with h|⟨b,off,h1,h2,h3⟩;exact .inl h;exact .inr ⟨b,off,h1,h2,λi x hi=>(h3 i x hi).below h2 hc⟩
theorem RtsAt.mono {B C:Nat} {w:World} {a:Option Addr} {xs:List RT} (h:RtsAt B w a xs) (hc:B≤C):RtsAt C w a xs:=by rcases h with h|⟨b,off,h1,h2,h3⟩;exact .inl h;exact .inr ⟨b,off,h1,an h2 hc,h3⟩
theorem RtsAt.at {B:Nat} {w:World} {a:Option Addr} {xs:List RT} (h:RtsAt B w a xs) {i:Nat} {x:RT} (hi:xs[i]?=some x):∃ b off,a=some ⟨b,off,none⟩∧b<B∧RtIn w b (off+i*4) x:=by rcases h with rfl|⟨b,off,h1,h2,h3⟩;simp at hi;exact ⟨b,off,h1,h2,h3 i x hi⟩
theorem SpAt.below {B:Nat} {w w':World} {s:SP} {a:Option Addr} {cap:Nat} (h:SpAt B w s a cap) (hc:Below B w w'):SpAt B w' s a cap:=
 ⟨h.rts.below hc,h.rok,h.len,h.inil,h.g,h.b,h.c,h.r,h.n⟩
theorem SpAt.mono {B C:Nat} {w:World} {s:SP} {a:Option Addr} {cap:Nat} (h:SpAt B w s a cap) (hc:B≤C):SpAt C w s a cap:=
 ⟨h.rts.mono hc,h.rok,h.len,h.inil,h.g,h.b,h.c,h.r,h.n⟩
theorem AV {B:Nat} {w w':World} {b:Nat} {o:Obj} (hg:w.heap[b]?=some o) (hB:Below B w w') (hb:b<B):w'.heap[b]?=some o:=(hB.block b hb).trans hg
theorem gc:prog.cellsOf 72=3:=by kernel_rfl
theorem cellsCf:prog.cellsOf 23=3:=by kernel_rfl
section
variable {H:Type} {enc:TypeId×Value→H}
theorem rd_cf {W:World} {n:Nat} {c0 c1 c2:Value} {x:DataW H×List MemPlace} (h:Rd enc prog W n 23 [c0,c1,c2]=some x):
  ∃ v0 v1 v2:Int,c0= .int .i64 v0∧c1= .int .i64 v1∧c2= .int .i64 v2∧i64ok v0∧i64ok v1∧i64ok v2:=by obtain ⟨m2,_,hfl⟩:=xA underlying23 h;obtain ⟨y0,r0,_⟩:=hfl 0 _ rfl;obtain ⟨y1,r1,_⟩:=hfl 1 _ rfl;obtain ⟨y2,r2,_⟩:=hfl 2 _ rfl;obtain ⟨v0,rfl,k0⟩:=tJ (c:=c0) underlying3 r0;obtain ⟨v1,rfl,k1⟩:=tJ (c:=c1) underlying3 r1;obtain ⟨v2,rfl,k2⟩:=tJ (c:=c2) underlying3 r2;exact ⟨v0,v1,v2,rfl,rfl,rfl,pZ k0,pZ k1,pZ k2⟩
theorem open_cf {W:World} {b:Nat} {v:Value} {d:DataW H} {q:List MemPlace} (hv:Value.okWide prog W .any b 23 v)
  (h:DataW.Trod enc prog W 0 (λ_=>true) true 23 v d q):
  ∃ c:CF,v= .agg #[.int .i64 c.blocks,.int .i64 c.clones,.int .i64 c.refs]∧i64ok c.blocks∧i64ok c.clones∧i64ok c.refs:=by
   obtain ⟨cs,rfl,hsz⟩:=okWide_struct underlying23 hv;obtain ⟨l⟩:=cs;obtain ⟨fuel,hf⟩:=h;match l,hsz.trans cellsCf with
   |[c0,c1,c2],_=>have hf':Rd enc prog W fuel 23 [c0,c1,c2]=some (d,q):=hf;obtain ⟨v1,v2,v3,rfl,rfl,rfl,k1,k2,k3⟩:=rd_cf (c0:=c0) (c1:=c1) (c2:=c2) hf';exact ⟨⟨v1,v2,v3⟩,rfl,k1,k2,k3⟩
end
end Go.Proofs.YtchbedbmjiabgaaGreatDoor.Wi.Su
namespace Go.Proofs.YtchbedbmjiabgaaGreatDoor.Wi
open Go.RowKit Go.Proofs.Tryz
structure WS where
 (most:Nat) (bs:List UInt8) (err:Nat)
def WS.fail (s:WS) (e:Nat):WS:=if s.err=0 then {s with err:=e} else s
def WS.add (s:WS) (xs:List UInt8):WS:=if s.err≠0 then s else if s.most<s.bs.length+xs.length then {s with err:=4} else {s with bs:=s.bs++xs}
def IsW (w:World) (p:Nat) (oa:Option Addr) (cap:Nat) (s:WS):Prop:=
 (∃ T,w.heap[p]?=some (.cells #[.int .i64 (s.most:Int),.slice oa s.bs.length cap,.int .i64 (s.err:Int)] T))∧OB w oa cap s.bs∧blk oa≠some p∧s.bs.length≤s.most∧s.most≤16777216∧s.err≤1000
theorem ki {w:World} {p:Nat} {v0 v1 v2:Value} {T:TypeId} (h:w.heap[p]?=some (.cells #[v0,v1,v2] T)):
  w.cell? ⟨p,0,none⟩=some v0∧w.cell? ⟨p,1,none⟩=some v1∧w.cell? ⟨p,2,none⟩=some v2∧(∀ k,w.frozen? ⟨p,k,none⟩=false):=by simp [World.cell?,World.frozen?,h]
theorem set3_1 {w:World} {p:Nat} {v0 v1 v2:Value} {T:TypeId} (h:w.heap[p]?=some (.cells #[v0,v1,v2] T)) (u:Value):(w.setCell ⟨p,1,none⟩ u).heap[p]?=some (.cells #[v0,u,v2] T):=by rw [setCell_eq_setRow w p 1 _ T (0,0) u h,setRow_heap w p _ _ T (0,0) h];rfl
theorem set3_2 {w:World} {p:Nat} {v0 v1 v2:Value} {T:TypeId} (h:w.heap[p]?=some (.cells #[v0,v1,v2] T)) (u:Value):(w.setCell ⟨p,2,none⟩ u).heap[p]?=some (.cells #[v0,v1,u] T):=by rw [setCell_eq_setRow w p 2 _ T (0,0) u h,setRow_heap w p _ _ T (0,0) h];rfl
theorem eE {w:World} {p:Nat} {o:Obj} (h:w.heap[p]?=some o):p<w.heap.size:=by rcases Nat.lt_or_ge p w.heap.size with h1|h1;exact h1;rw [bJ h1] at h;cases h
theorem IsW.lt {w:World} {p:Nat} {oa:Option Addr} {cap:Nat} {s:WS} (h:IsW w p oa cap s):p<w.heap.size:=by obtain ⟨⟨T,h⟩,_⟩:=h;exact eE h
theorem IsW.chg {F:Nat→Prop} {w w':World} {p:Nat} {oa:Option Addr} {cap:Nat} {s:WS} (h:IsW w p oa cap s) (hc:Chg F w w') (h1:¬ F p) (h2:∀ k,blk oa=some k→¬ F k):IsW w' p oa cap s:=by have hlt:=h.lt;obtain ⟨⟨T,h3⟩,h4,h5⟩:=h;exact ⟨⟨T,(hc.block p hlt h1).trans h3⟩,h4.chg hc h2,h5⟩
def Wrote (w:World) (p:Nat) (oa:Option Addr) (s':WS) (w':World):Prop:=
 ∃ oa' cap',IsW w' p oa' cap' s'∧Chg (λk=>k=p∨blk oa=some k) w w'∧(blk oa'=blk oa∨∃ k,blk oa'=some k∧w.heap.size≤k)
theorem Wrote.same {w:World} {p:Nat} {oa:Option Addr} {cap:Nat} {s:WS} (h:IsW w p oa cap s):Wrote w p oa s w:=⟨oa,cap,h,ae _ _,.inl rfl⟩
theorem Wrote.after {w w1 w2:World} {p:Nat} {oa:Option Addr} {s:WS} (hc:Chg (λ_=>False) w w1) (h:Wrote w1 p oa s w2):Wrote w p oa s w2:=by obtain ⟨oa',cap',h1,h2,h3⟩:=h;refine ⟨oa',cap',h1,(hc.mono (λ_ _ f=>f.elim)).trans h2 (λ_ _ g=>g),?_⟩;rcases h3 with h3|⟨k,h3,h4⟩;exact .inl h3;exact .inr ⟨k,h3,ao hc.size h4⟩
theorem IsW.drewN {w:World} {p:Nat} {oa:Option Addr} {cap:Nat} {s:WS} (h:IsW w p oa cap s) (n:Nat):IsW (w.drewN n) p oa cap s:=h
theorem IsW.set_err {w:World} {p:Nat} {oa:Option Addr} {cap:Nat} {s:WS} (h:IsW w p oa cap s) (e:Nat) (he:e≤1000):Wrote w p oa {s with err:=e} (w.setCell ⟨p,2,none⟩ (.int .i64 (e:Int))):=by obtain ⟨⟨T,h3⟩,h4,h5,h6,h7,h8⟩:=h;refine ⟨oa,cap,⟨⟨T,set3_2 h3 _⟩,h4.chg (af w ⟨p,2,none⟩ _) (λk hk e=>h5 (by rw [hk];exact congrArg some e)),h5,h6,h7,he⟩,(af w ⟨p,2,none⟩ _).mono (λk _ hk=> .inl hk),.inl rfl⟩
theorem rY (p:Nat) (oa:Option Addr) (cap:Nat) (s:WS) (e:Nat) (he:e≤1000) (w:World) (h:IsW w p oa cap s):
  Calls prog 102 #[.pointer (some ⟨p,0,none⟩),.int .i64 (e:Int)] w λr w'=>r= .returned (.tuple #[])∧Wrote w p oa (s.fail e) w':=by
   have hs:=Hd h;obtain ⟨⟨T,h3⟩,h4⟩:=h;obtain ⟨c0,c1,c2,f⟩:=ki h3;have f2:=f 2;clear h3 h4 f;by_cases h0:s.err=0
   ·(have e1:((s.err:Int)==0)=true:=by rw [beq_iff_eq];omega);have H:=Hd (hs.out.set_err e he);have HF:=Hd (show s.fail e={s with err:=e} by simp [WS.fail,h0]);clear hs h0;go_enter func102,ntmps102;go_wp2_with fail;go_end0;exact ⟨rfl,by rw [HF.out];exact H.out⟩
   ·(have e1:((s.err:Int)==0)=false:=by rw [br];omega);have HF:=Hd (show s.fail e=s by simp [WS.fail,h0]);clear h0;go_enter func102,ntmps102;go_wp2_with fail;go_end0;exact ⟨rfl,by rw [HF.out];exact Wrote.same hs.out⟩
structure Prt where
 (a:Option Addr) (c:Nat) (xs:List UInt8)
def cK (ps:List Prt):List UInt8:=ps.flatMap (·.xs)
theorem kw {ps:List Prt} {k:Nat} {x:Prt} (h:ps[k]?=some x):cK (ps.take (k+1))=cK (ps.take k)++x.xs:=by have hk:=(ar.1 h).1;have e:ps[k]=x:=(ar.1 h).2;rw [List.take_succ_eq_append_getElem hk,e];simp [cK]
theorem nL (ps:List Prt) (k:Nat):(cK (ps.take k)).length≤(cK ps).length:=by
 have:cK ps=cK (ps.take k)++cK (ps.drop k):=by rw [cK,cK,cK,←List.flatMap_append,bL]
 rw [this,aq];omega
def PartsAt (w:World) (q:Nat) (ps:List Prt):Prop:=∀ j x,ps[j]?=some x→w.cell? ⟨q,j,none⟩=some (.slice x.a x.xs.length x.c)∧Bts w x.a x.xs∧(x.a=none→x.c=0)
def Aside (p:Nat) (oa:Option Addr) (q:Nat) (ps:List Prt):Prop:=(q≠p∧blk oa≠some q)∧∀ x∈ps,x.xs=[]∨∀ k,blk x.a=some k→k≠p∧blk oa≠some k
def RelP1 (ps:List Prt) (n i:Value):Prop:=∃ k:Nat,k≤ps.length∧i= .int .i64 k∧n= .int .i64 ((cK (ps.take k)).length:Nat)
def RelP2 (w0:World) (p:Nat) (oa:Option Addr) (s:WS) (ps:List Prt) (i:Value) (wr:World):Prop:=
 ∃ (k:Nat) (oa':Option Addr) (cap':Nat),k≤ps.length∧i= .int .i64 k∧IsW wr p oa' cap' {s with bs:=s.bs++cK (ps.take k)}∧Chg (λk=>k=p∨blk oa=some k) w0 wr∧(blk oa'=blk oa∨∃ k,blk oa'=some k∧w0.heap.size≤k)
theorem iS (p q cq:Nat) (oa:Option Addr) (cap:Nat) (s:WS) (ps:List Prt) (hl:(cK ps).length≤1000000000000000) (hpl:ps.length≤1000000) (w:World) (h:IsW w p oa cap s) (hp:PartsAt w q ps) (hq:q<w.heap.size) (ha:Aside p oa q ps):
  Calls prog 99 #[.pointer (some ⟨p,0,none⟩),.slice (some ⟨q,0,none⟩) ps.length cq] w λr w'=>r= .returned (.tuple #[])∧Wrote w p oa (s.add (cK ps)) w':=by
   have hs:=Hd h;have Hp:=Hd hp;have Ha:=Hd ha;obtain ⟨⟨T,h3⟩,h4,h5,h6,h7,h8⟩:=h;obtain ⟨c0,c1,c2,f⟩:=ki h3;have f2:=f 2;(have hnb:s.bs.length≤16777216:=by omega);clear h3 h4 h5 f hp ha;go_enter func99,ntmps99;go_wp2_with fail;go_loop [4,11] (λn i=>RelP1 ps n i) (λ_ i=>ps.length-(intOf i).toNat);case atStart=>exact ⟨0,aV _,rfl,rfl⟩
   case round=>
    obtain ⟨k,hk,rfl,rfl⟩:=hrel;by_cases hlt:k<ps.length
    ·obtain ⟨x,hx⟩:∃ x,ps[k]?=some x:=⟨_,ap hlt⟩;obtain ⟨hc,hb,hn⟩:=Hp.out k x hx;have hle:=nL ps (k+1);have hj:=kw hx;rw [hj,aq] at hle;have HJ:=Hd (show (cK (ps.take (k+1))).length=(cK (ps.take k)).length+x.xs.length by rw [hj,aq]);generalize (cK (ps.take k)).length=m at hle HJ;generalize x.xs.length=xl at hc hle HJ;clear hj hx hb hn;go_wp2_with fail;go_round;(case rel=>exact ⟨k+1,by omega,by go_num,by rw [HJ.out];go_num⟩);case measure=>simp [intOf];omega
    ·(have hke:cK (ps.take k)=cK ps:=by rw [av (by omega)]);rw [hke];clear hke;by_cases he:s.err=0
     ·(have e1:((s.err:Int) != 0)=false:=by rw [bne_eq_false_iff_eq];omega);(have e2:((s.err:Int)==0)=true:=by rw [beq_iff_eq];omega);by_cases hroom:s.most<s.bs.length+(cK ps).length
      ·have HF:=Hd (show s.add (cK ps)={s with err:=4} by simp [WS.add,he,hroom]);(have hri:(s.most:Int)-(s.bs.length:Int)<((cK ps).length:Int):=by omega);have H:=Hd (hs.out.set_err 4 (by decide));generalize (cK ps).length=jl at hl hroom hri;clear he;go_wp2_with fail;go_quiet (fail);go_wp2_with fail;go_end0;exact ⟨rfl,by rw [HF.out];exact Wrote.after ((ae _ _).drewN nq) ((hs.out.drewN nq).set_err 4 (by decide))⟩
      ·have HF:=Hd (show s.add (cK ps)={s with bs:=s.bs++cK ps} by simp [WS.add,he,hroom]);(have hri:((cK ps).length:Int)≤(s.most:Int)-(s.bs.length:Int):=by omega);have HM0:=Hd (show s.bs.length+(cK ps).length≤s.most by omega);have HR:=Hd (show s.bs.length+(cK ps).length≤16777216 by omega);generalize hjl:(cK ps).length=jl at hl hri;clear he hjl hroom;go_wp2_with fail;go_quiet (fail);go_wp2_with fail;go_loopw [22] (λi wr=>RelP2 w p oa s ps i wr) (λi _=>ps.length-(intOf i).toNat);case atStart=>exact ⟨0,oa,cap,aV _,rfl,by simpa [cK] using hs.out.drewN nq,(ae _ _).drewN nq,.inl rfl⟩
       case round=>
        clear c0 c1 c2 f2 e1 e2 hri hl;obtain ⟨k2,oa',cap',hk2,rfl,hW,hC,hbl⟩:=hrel;by_cases hlt2:k2<ps.length
        ·obtain ⟨x,hx⟩:∃ x,ps[k2]?=some x:=⟨_,ap hlt2⟩;obtain ⟨hc,hb,hn⟩:=Hp.out k2 x hx;obtain ⟨⟨hq1,hq2⟩,ha⟩:=Ha.out;have hax:=ha x (aD hx);have hcw:=(hC.cell (p:=⟨q,k2,none⟩) hq (λe=>e.elim hq1 hq2)).trans hc;have hbw:Bts wr x.a x.xs:=hax.elim (λe=> .inl e) λhax=>hb.chg hC (λk hk e=>e.elim (hax k hk).1 (hax k hk).2);clear hax;have HJ:=Hd (show s.bs++cK (ps.take (k2+1))=s.bs++cK (ps.take k2)++x.xs by rw [kw hx,aQ]);have hle:=nL ps (k2+1);rw [kw hx,aq] at hle;obtain ⟨⟨T2,g3⟩,g4,g5,g6,g7,g8⟩:=hW;simp only at g3 g4 g6 g8;(have hnl:(s.bs++cK (ps.take k2)).length+x.xs.length≤16777216:=by rw [aq];have:=HR.out;omega);generalize s.bs++cK (ps.take k2)=cur at g3 g4 g6 hnl HJ;generalize hcl:cur.length=n at g3 g6 hnl;have Hcl:=Hd hcl;generalize hxl:x.xs.length=m at hcw hnl hle;have Hxl:=Hd hxl;obtain ⟨c0,c1,c2,f⟩:=ki g3;clear f hx hc hb ha hcl hxl hq1 hq2 hle;go_wp2_with (at_builtin;refine cJ rfl (.tmp 30) (.tmp 31) rfl Hcl.out.symm rfl g4 Hxl.out.symm rfl hbw hn (by omega) ?_;intro oa2 cap2 w2 hO2 hC2 hb2 _;have g3':=(hC2.block p (eE g3) g5).trans g3;obtain ⟨d0,d1,d2,f⟩:=ki g3';have f1:=f 1;clear f);clear hcw c0 c1 c2 d0 d1 d2 f1 hnl;go_roundw;(case rel=>(have hp2:blk oa2≠some p:=by rcases hb2 with e|e;rw [e];exact g5;rw [e];intro e2;have:=eE g3;cases e2;omega);(have hlen:(cur++x.xs).length=n+m:=by rw [aq,Hcl.out,Hxl.out]);refine ⟨k2+1,oa2,cap2,by omega,by go_num,?_,?_,?_⟩;rw [HJ.out];refine ⟨⟨T2,?_⟩,hO2.chg (af w2 ⟨p,1,none⟩ _) (λk hk e=>hp2 (by rw [hk];exact congrArg some e)),hp2,?_,h7,h8⟩;simp only [hlen];exact set3_1 g3' _;have h1:=nL ps (k2+1);have h2:=congrArg List.length HJ.out;rw [aq] at h2;have h3:=HM0.out;show (cur++x.xs).length≤s.most;omega;refine (hC.trans hC2 (λi hi e=>?_)).setCell _ _ (λ_=> .inl rfl);rcases hbl with h|⟨k,h,h'⟩;exact .inr (by rw [←h];exact e);rw [h] at e;cases e;omega;rcases hb2 with h|h;rw [h];exact hbl;exact .inr ⟨_,h,hC.size⟩);case measure=>simp [intOf];omega
        ·(have hke2:cK (ps.take k2)=cK ps:=by rw [av (by omega)]);rw [hke2] at hW;clear hke2;go_wp2_with fail;go_end0;exact ⟨rfl,by rw [HF.out];exact ⟨oa',cap',hW,hC,hbl⟩⟩
     ·(have e1:((s.err:Int) != 0)=true:=by rw [bO];omega);have HF:=Hd (show s.add (cK ps)=s by simp [WS.add,he]);generalize (cK ps).length=jl at hl;clear he;go_wp2_with fail;go_end0;exact ⟨rfl,by rw [HF.out];exact Wrote.same hs.out⟩
def leb:Nat→Nat→List UInt8
 |0,_=>[]
 |k+1,n=>UInt8.ofNat (n%256)::leb k (n/256)
theorem cd (k n:Nat):(leb k n).length=k:=by
 induction k generalizing n with
 |zero=>rfl
 |succ k ih=>simp [leb,ih]
theorem kN (k n j:Nat) (h:j<k):(leb k n)[j]?=some (UInt8.ofNat (n/256^j%256)):=by
 induction k generalizing n j with
 |zero=>omega
 |succ k ih=>
  cases j with
  |zero=>simp [leb]
  |succ j=>rw [leb,List.getElem?_cons_succ,ih _ _ (by omega),Nat.div_div_eq_div_mul,Nat.pow_succ,Nat.mul_comm 256]
theorem nj (n:Nat):((UInt8.ofNat (n%256)).toNat:Int)=(n:Int)%256:=by rw [UInt8.toNat_ofNat'];omega
theorem fO {l l2:List UInt8} {j:Nat} {b:UInt8} (h1:l.take j=l2.take j) (h2:l2[j]?=some b) (h3:j<l.length):(l.set j b).take (j+1)=l2.take (j+1):=by apply List.ext_getElem?;intro i;have hj2:=(ar.1 h2).1;by_cases hi:i<j;rw [bI (by omega),bI (by omega),List.getElem?_set_ne (by omega)];have:=congrArg (·[i]?) h1;simpa [bI hi] using this;by_cases e:i=j;subst e;rw [bI (by omega),bI (by omega),List.getElem?_set_self h3,h2];rw [aP (by rw [aC,List.length_set];omega),aP (by rw [aC];omega)]
def p7 (w0:World) (g k n:Nat) (y i:Value) (wr:World):Prop:=
 ∃ (j:Nat) (cur:List UInt8),j≤k∧i= .int .i64 j∧y= .int .u64 ((n/256^j:Nat):Int)∧OB wr (some ⟨g,0,none⟩) k cur∧cur.length=k∧cur.take j=(leb k n).take j∧Below w0.heap.size w0 wr
theorem Wrote.below {w w1 w2:World} {p:Nat} {oa:Option Addr} {s:WS} (hc:Below w.heap.size w w1) (h:Wrote w1 p oa s w2):Wrote w p oa s w2:=Wrote.after (ac hc) h
theorem mw (w:World):Calls prog 101 #[] w λe w'=>e= .returned (.int .i64 1)∧w=w':=by go_enter func101,ntmps101;go_wp2;go_rounds 2;go_ret;exact ⟨rfl,rfl⟩
theorem pg (p:Nat) (oa:Option Addr) (cap:Nat) (s:WS) (n:Nat) (hn:n<18446744073709551616) (w:World) (h:IsW w p oa cap s):
  Calls prog 73 #[.pointer (some ⟨p,0,none⟩),.int .u8 (n:Int)] w λr w'=>r= .returned (.tuple #[])∧Wrote w p oa (s.add (leb 1 n)) w':=by
   have Hs:=Hd h;(have hmk:∀ w,(Instr.makeSlice 24 (.int .i64 1) (.int .i64 1)).run prog w= .ok (.slice (some ⟨w.heap.size,0,none⟩) 1 1) (w.alloc (.cells #[.int .u8 0] 5)):=λ_=>by kernel_rfl);have hp:=h.lt;have hblk:=h.2.1.lt;clear h;go_enter func73,ntmps73;go_wp2_with fail;refine (mw _).mono ?_;rintro _ _ ⟨rfl,rfl⟩;go_wp2_with fail;clear hmk;go_loopw [5,13] (λy i wr=>p7 w w.heap.size 1 n y i wr) (λ_ i _=>1-(intOf i).toNat);case atStart=>exact ⟨0,List.replicate 1 0,aV _,rfl,by simp,OB.made w (List.replicate 1 0) (by decide),rfl,rfl,(aA _ _).alloc (am _) _⟩
   case round=>
    obtain ⟨j,cur,hj,rfl,rfl,hO,hcl,htk,hB⟩:=hrel;by_cases hlt:j<1
    ·obtain ⟨hc,hf⟩:=hO.cell (i:=j) (by omega);have hy:=nj (n/256^j);have hyb:n/256^j<18446744073709551616:=bQ (Nat.div_le_self _ _) hn;have HY:=Hd (show n/256^(j+1)=n/256^j/256 by rw [Nat.pow_succ,Nat.div_div_eq_div_mul]);have HO:=Hd (hO.set (i:=j) (by omega) (UInt8.ofNat (n/256^j%256)));have HT:=Hd (fO htk (kN 1 n j hlt) (by omega));have Hcl:=Hd hcl;generalize UInt8.ofNat (n/256^j%256)=b at hy HO HT;generalize n/256^j=y at hy hyb HY;have hy2:=Hd hy.symm;generalize cur.getD j 0=old at hc;clear hO hcl htk hy;go_wp2_with fail;go_roundw;(case rel=>rw [hy2.out];exact ⟨j+1,cur.set j b,by omega,by go_num,by rw [HY.out];go_num,HO.out,by rw [List.length_set];exact Hcl.out,HT.out,hB.setCell (am _) _⟩);case measure=>simp [intOf];omega
    ·(have hcur:cur=leb 1 n:=by rw [av (by omega),av (by rw [cd];omega)] at htk;exact htk);subst hcur;(have hz:wr.heap.size<(wr.alloc (.cells #[.slice (some ⟨w.heap.size,0,none⟩) 1 1] 24)).heap.size:=by simp);have hB2:Below w.heap.size w (wr.alloc (.cells #[.slice (some ⟨w.heap.size,0,none⟩) 1 1] 24)):=hB.alloc hB.size _;have hg:=az wr (.cells #[.slice (some ⟨w.heap.size,0,none⟩) 1 1] 24);have hO2:=hO.below ((aA _ _).alloc (am _) (.cells #[.slice (some ⟨w.heap.size,0,none⟩) 1 1] 24));have hsz:=hB.size
     have H:=Hd λW' (hW:Below w.heap.size w W') (hg:W'.heap[wr.heap.size]?=some (.cells #[.slice (some ⟨w.heap.size,0,none⟩) 1 1] 24)) (hO:OB W' (some ⟨w.heap.size,0,none⟩) 1 (leb 1 n))=>
      iS p wr.heap.size 1 oa cap s [⟨some ⟨w.heap.size,0,none⟩,1,leb 1 n⟩] (by simp [cK,cd]) (by show 1≤_;omega) W' (Hs.out.chg (F:=λ_=>False) (ac hW) (λf=>f) (λ_ _ f=>f))
       (λj x hx=>by
         cases j with
         |zero=>cases hx;exact ⟨by rw [bd _ _ 0 _ _ _ hg];simp [cd],hO.bts,λe=>by cases e⟩
         |succ j=>simp at hx)
       (eE hg) ⟨⟨by omega,λe=>by have:=hblk _ e;omega⟩,λx hx=> .inr λk hk=>by
        simp at hx;subst hx
        simp [blk] at hk;subst hk
        exact ⟨by omega,λe=>by have:=hblk _ e;omega⟩⟩
     have H2:=Hd (H.out _ hB2 hg hO2);rw [show cK [⟨some ⟨w.heap.size,0,none⟩,1,leb 1 n⟩]=leb 1 n by simp [cK]] at H2;clear H hO hO2 hg hz hcl htk hsz hblk hp;go_wp2_with fail;refine H2.out.mono ?_;rintro _ w3 ⟨rfl,h3⟩;go_wp2_with fail;go_end0;exact ⟨rfl,Wrote.below hB2 h3⟩
theorem lq (w:World):Calls prog 136 #[] w λe w'=>e= .returned (.int .i64 2)∧w=w':=by go_enter func136,ntmps136;go_wp2;go_rounds 3;go_ret;exact ⟨rfl,rfl⟩
theorem ux (p:Nat) (oa:Option Addr) (cap:Nat) (s:WS) (n:Nat) (hn:n<18446744073709551616) (w:World) (h:IsW w p oa cap s):
  Calls prog 96 #[.pointer (some ⟨p,0,none⟩),.int .u16 (n:Int)] w λr w'=>r= .returned (.tuple #[])∧Wrote w p oa (s.add (leb 2 n)) w':=by
   have Hs:=Hd h;(have hmk:∀ w,(Instr.makeSlice 24 (.int .i64 2) (.int .i64 2)).run prog w= .ok (.slice (some ⟨w.heap.size,0,none⟩) 2 2) (w.alloc (.cells #[.int .u8 0,.int .u8 0] 5)):=λ_=>by kernel_rfl);have hp:=h.lt;have hblk:=h.2.1.lt;clear h;go_enter func96,ntmps96;go_wp2_with fail;refine (lq _).mono ?_;rintro _ _ ⟨rfl,rfl⟩;go_wp2_with fail;clear hmk;go_loopw [5,13] (λy i wr=>p7 w w.heap.size 2 n y i wr) (λ_ i _=>2-(intOf i).toNat);case atStart=>exact ⟨0,List.replicate 2 0,aV _,rfl,by simp,OB.made w (List.replicate 2 0) (by decide),rfl,rfl,(aA _ _).alloc (am _) _⟩
   case round=>
    obtain ⟨j,cur,hj,rfl,rfl,hO,hcl,htk,hB⟩:=hrel;by_cases hlt:j<2
    ·obtain ⟨hc,hf⟩:=hO.cell (i:=j) (by omega);have hy:=nj (n/256^j);have hyb:n/256^j<18446744073709551616:=bQ (Nat.div_le_self _ _) hn;have HY:=Hd (show n/256^(j+1)=n/256^j/256 by rw [Nat.pow_succ,Nat.div_div_eq_div_mul]);have HO:=Hd (hO.set (i:=j) (by omega) (UInt8.ofNat (n/256^j%256)));have HT:=Hd (fO htk (kN 2 n j hlt) (by omega));have Hcl:=Hd hcl;generalize UInt8.ofNat (n/256^j%256)=b at hy HO HT;generalize n/256^j=y at hy hyb HY;have hy2:=Hd hy.symm;generalize cur.getD j 0=old at hc;clear hO hcl htk hy;go_wp2_with fail;go_roundw;(case rel=>rw [hy2.out];exact ⟨j+1,cur.set j b,by omega,by go_num,by rw [HY.out];go_num,HO.out,by rw [List.length_set];exact Hcl.out,HT.out,hB.setCell (am _) _⟩);case measure=>simp [intOf];omega
    ·(have hcur:cur=leb 2 n:=by rw [av (by omega),av (by rw [cd];omega)] at htk;exact htk);subst hcur;(have hz:wr.heap.size<(wr.alloc (.cells #[.slice (some ⟨w.heap.size,0,none⟩) 2 2] 24)).heap.size:=by simp);have hB2:Below w.heap.size w (wr.alloc (.cells #[.slice (some ⟨w.heap.size,0,none⟩) 2 2] 24)):=hB.alloc hB.size _;have hg:=az wr (.cells #[.slice (some ⟨w.heap.size,0,none⟩) 2 2] 24);have hO2:=hO.below ((aA _ _).alloc (am _) (.cells #[.slice (some ⟨w.heap.size,0,none⟩) 2 2] 24));have hsz:=hB.size
     have H:=Hd λW' (hW:Below w.heap.size w W') (hg:W'.heap[wr.heap.size]?=some (.cells #[.slice (some ⟨w.heap.size,0,none⟩) 2 2] 24)) (hO:OB W' (some ⟨w.heap.size,0,none⟩) 2 (leb 2 n))=>
      iS p wr.heap.size 1 oa cap s [⟨some ⟨w.heap.size,0,none⟩,2,leb 2 n⟩] (by simp [cK,cd]) (by show 1≤_;omega) W' (Hs.out.chg (F:=λ_=>False) (ac hW) (λf=>f) (λ_ _ f=>f))
       (λj x hx=>by
         cases j with
         |zero=>cases hx;exact ⟨by rw [bd _ _ 0 _ _ _ hg];simp [cd],hO.bts,λe=>by cases e⟩
         |succ j=>simp at hx)
       (eE hg) ⟨⟨by omega,λe=>by have:=hblk _ e;omega⟩,λx hx=> .inr λk hk=>by
        simp at hx;subst hx
        simp [blk] at hk;subst hk
        exact ⟨by omega,λe=>by have:=hblk _ e;omega⟩⟩
     have H2:=Hd (H.out _ hB2 hg hO2);rw [show cK [⟨some ⟨w.heap.size,0,none⟩,2,leb 2 n⟩]=leb 2 n by simp [cK]] at H2;clear H hO hO2 hg hz hcl htk hsz hblk hp;go_wp2_with fail;refine H2.out.mono ?_;rintro _ w3 ⟨rfl,h3⟩;go_wp2_with fail;go_end0;exact ⟨rfl,Wrote.below hB2 h3⟩
theorem ln (w:World):Calls prog 98 #[] w λe w'=>e= .returned (.int .i64 4)∧w=w':=by go_enter func98,ntmps98;go_wp2;go_rounds 5;go_ret;exact ⟨rfl,rfl⟩
theorem nU (p:Nat) (oa:Option Addr) (cap:Nat) (s:WS) (n:Nat) (hn:n<18446744073709551616) (w:World) (h:IsW w p oa cap s):
  Calls prog 71 #[.pointer (some ⟨p,0,none⟩),.int .u32 (n:Int)] w λr w'=>r= .returned (.tuple #[])∧Wrote w p oa (s.add (leb 4 n)) w':=by
   have Hs:=Hd h;(have hmk:∀ w,(Instr.makeSlice 24 (.int .i64 4) (.int .i64 4)).run prog w= .ok (.slice (some ⟨w.heap.size,0,none⟩) 4 4) (w.alloc (.cells #[.int .u8 0,.int .u8 0,.int .u8 0,.int .u8 0] 5)):=λ_=>by kernel_rfl);have hp:=h.lt;have hblk:=h.2.1.lt;clear h;go_enter func71,ntmps71;go_wp2_with fail;refine (ln _).mono ?_;rintro _ _ ⟨rfl,rfl⟩;go_wp2_with fail;clear hmk;go_loopw [5,13] (λy i wr=>p7 w w.heap.size 4 n y i wr) (λ_ i _=>4-(intOf i).toNat);case atStart=>exact ⟨0,List.replicate 4 0,aV _,rfl,by simp,OB.made w (List.replicate 4 0) (by decide),rfl,rfl,(aA _ _).alloc (am _) _⟩
   case round=>
    obtain ⟨j,cur,hj,rfl,rfl,hO,hcl,htk,hB⟩:=hrel;by_cases hlt:j<4
    ·obtain ⟨hc,hf⟩:=hO.cell (i:=j) (by omega);have hy:=nj (n/256^j);have hyb:n/256^j<18446744073709551616:=bQ (Nat.div_le_self _ _) hn;have HY:=Hd (show n/256^(j+1)=n/256^j/256 by rw [Nat.pow_succ,Nat.div_div_eq_div_mul]);have HO:=Hd (hO.set (i:=j) (by omega) (UInt8.ofNat (n/256^j%256)));have HT:=Hd (fO htk (kN 4 n j hlt) (by omega));have Hcl:=Hd hcl;generalize UInt8.ofNat (n/256^j%256)=b at hy HO HT;generalize n/256^j=y at hy hyb HY;have hy2:=Hd hy.symm;generalize cur.getD j 0=old at hc;clear hO hcl htk hy;go_wp2_with fail;go_roundw;(case rel=>rw [hy2.out];exact ⟨j+1,cur.set j b,by omega,by go_num,by rw [HY.out];go_num,HO.out,by rw [List.length_set];exact Hcl.out,HT.out,hB.setCell (am _) _⟩);case measure=>simp [intOf];omega
    ·(have hcur:cur=leb 4 n:=by rw [av (by omega),av (by rw [cd];omega)] at htk;exact htk);subst hcur;(have hz:wr.heap.size<(wr.alloc (.cells #[.slice (some ⟨w.heap.size,0,none⟩) 4 4] 24)).heap.size:=by simp);have hB2:Below w.heap.size w (wr.alloc (.cells #[.slice (some ⟨w.heap.size,0,none⟩) 4 4] 24)):=hB.alloc hB.size _;have hg:=az wr (.cells #[.slice (some ⟨w.heap.size,0,none⟩) 4 4] 24);have hO2:=hO.below ((aA _ _).alloc (am _) (.cells #[.slice (some ⟨w.heap.size,0,none⟩) 4 4] 24));have hsz:=hB.size
     have H:=Hd λW' (hW:Below w.heap.size w W') (hg:W'.heap[wr.heap.size]?=some (.cells #[.slice (some ⟨w.heap.size,0,none⟩) 4 4] 24)) (hO:OB W' (some ⟨w.heap.size,0,none⟩) 4 (leb 4 n))=>
      iS p wr.heap.size 1 oa cap s [⟨some ⟨w.heap.size,0,none⟩,4,leb 4 n⟩] (by simp [cK,cd]) (by show 1≤_;omega) W' (Hs.out.chg (F:=λ_=>False) (ac hW) (λf=>f) (λ_ _ f=>f))
       (λj x hx=>by
         cases j with
         |zero=>cases hx;exact ⟨by rw [bd _ _ 0 _ _ _ hg];simp [cd],hO.bts,λe=>by cases e⟩
         |succ j=>simp at hx)
       (eE hg) ⟨⟨by omega,λe=>by have:=hblk _ e;omega⟩,λx hx=> .inr λk hk=>by
        simp at hx;subst hx
        simp [blk] at hk;subst hk
        exact ⟨by omega,λe=>by have:=hblk _ e;omega⟩⟩
     have H2:=Hd (H.out _ hB2 hg hO2);rw [show cK [⟨some ⟨w.heap.size,0,none⟩,4,leb 4 n⟩]=leb 4 n by simp [cK]] at H2;clear H hO hO2 hg hz hcl htk hsz hblk hp;go_wp2_with fail;refine H2.out.mono ?_;rintro _ w3 ⟨rfl,h3⟩;go_wp2_with fail;go_end0;exact ⟨rfl,Wrote.below hB2 h3⟩
theorem lj (w:World):Calls prog 100 #[] w λe w'=>e= .returned (.int .i64 8)∧w=w':=by go_enter func100,ntmps100;go_wp2;go_rounds 9;go_ret;exact ⟨rfl,rfl⟩
theorem nT (p:Nat) (oa:Option Addr) (cap:Nat) (s:WS) (n:Nat) (hn:n<18446744073709551616) (w:World) (h:IsW w p oa cap s):
  Calls prog 72 #[.pointer (some ⟨p,0,none⟩),.int .u64 (n:Int)] w λr w'=>r= .returned (.tuple #[])∧Wrote w p oa (s.add (leb 8 n)) w':=by
   have Hs:=Hd h;(have hmk:∀ w,(Instr.makeSlice 24 (.int .i64 8) (.int .i64 8)).run prog w= .ok (.slice (some ⟨w.heap.size,0,none⟩) 8 8) (w.alloc (.cells #[.int .u8 0,.int .u8 0,.int .u8 0,.int .u8 0,.int .u8 0,.int .u8 0,.int .u8 0,.int .u8 0] 5)):=λ_=>by kernel_rfl);have hp:=h.lt;have hblk:=h.2.1.lt;clear h;go_enter func72,ntmps72;go_wp2_with fail;refine (lj _).mono ?_;rintro _ _ ⟨rfl,rfl⟩;go_wp2_with fail;clear hmk;go_loopw [5,12] (λy i wr=>p7 w w.heap.size 8 n y i wr) (λ_ i _=>8-(intOf i).toNat);case atStart=>exact ⟨0,List.replicate 8 0,aV _,rfl,by simp,OB.made w (List.replicate 8 0) (by decide),rfl,rfl,(aA _ _).alloc (am _) _⟩
   case round=>
    obtain ⟨j,cur,hj,rfl,rfl,hO,hcl,htk,hB⟩:=hrel;by_cases hlt:j<8
    ·obtain ⟨hc,hf⟩:=hO.cell (i:=j) (by omega);have hy:=nj (n/256^j);have hyb:n/256^j<18446744073709551616:=bQ (Nat.div_le_self _ _) hn;have HY:=Hd (show n/256^(j+1)=n/256^j/256 by rw [Nat.pow_succ,Nat.div_div_eq_div_mul]);have HO:=Hd (hO.set (i:=j) (by omega) (UInt8.ofNat (n/256^j%256)));have HT:=Hd (fO htk (kN 8 n j hlt) (by omega));have Hcl:=Hd hcl;generalize UInt8.ofNat (n/256^j%256)=b at hy HO HT;generalize n/256^j=y at hy hyb HY;have hy2:=Hd hy.symm;generalize cur.getD j 0=old at hc;clear hO hcl htk hy;go_wp2_with fail;go_roundw;(case rel=>rw [hy2.out];exact ⟨j+1,cur.set j b,by omega,by go_num,by rw [HY.out];go_num,HO.out,by rw [List.length_set];exact Hcl.out,HT.out,hB.setCell (am _) _⟩);case measure=>simp [intOf];omega
    ·(have hcur:cur=leb 8 n:=by rw [av (by omega),av (by rw [cd];omega)] at htk;exact htk);subst hcur;(have hz:wr.heap.size<(wr.alloc (.cells #[.slice (some ⟨w.heap.size,0,none⟩) 8 8] 24)).heap.size:=by simp);have hB2:Below w.heap.size w (wr.alloc (.cells #[.slice (some ⟨w.heap.size,0,none⟩) 8 8] 24)):=hB.alloc hB.size _;have hg:=az wr (.cells #[.slice (some ⟨w.heap.size,0,none⟩) 8 8] 24);have hO2:=hO.below ((aA _ _).alloc (am _) (.cells #[.slice (some ⟨w.heap.size,0,none⟩) 8 8] 24));have hsz:=hB.size
     have H:=Hd λW' (hW:Below w.heap.size w W') (hg:W'.heap[wr.heap.size]?=some (.cells #[.slice (some ⟨w.heap.size,0,none⟩) 8 8] 24)) (hO:OB W' (some ⟨w.heap.size,0,none⟩) 8 (leb 8 n))=>
      iS p wr.heap.size 1 oa cap s [⟨some ⟨w.heap.size,0,none⟩,8,leb 8 n⟩] (by simp [cK,cd]) (by show 1≤_;omega) W' (Hs.out.chg (F:=λ_=>False) (ac hW) (λf=>f) (λ_ _ f=>f))
       (λj x hx=>by
         cases j with
         |zero=>cases hx;exact ⟨by rw [bd _ _ 0 _ _ _ hg];simp [cd],hO.bts,λe=>by cases e⟩
         |succ j=>simp at hx)
       (eE hg) ⟨⟨by omega,λe=>by have:=hblk _ e;omega⟩,λx hx=> .inr λk hk=>by
        simp at hx;subst hx
        simp [blk] at hk;subst hk
        exact ⟨by omega,λe=>by have:=hblk _ e;omega⟩⟩
     have H2:=Hd (H.out _ hB2 hg hO2);rw [show cK [⟨some ⟨w.heap.size,0,none⟩,8,leb 8 n⟩]=leb 8 n by simp [cK]] at H2;clear H hO hO2 hg hz hcl htk hsz hblk hp;go_wp2_with fail;refine H2.out.mono ?_;rintro _ w3 ⟨rfl,h3⟩;go_wp2_with fail;go_end0;exact ⟨rfl,Wrote.below hB2 h3⟩
end Go.Proofs.YtchbedbmjiabgaaGreatDoor.Wi
