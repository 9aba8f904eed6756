/- TopFormat, part 1 of the proof: Arg2 Deep2 Eq Spare Pg Cmp Chk PgL. No condition. -/
import Derived.ShutString
import Derived.Deep.Fields
import Derived.BigQuiet
import Derived.Lib.BytesEntry
import Derived.Test.YtchbedbmjiabgaaGreatDoorZ00
set_option linter.all false
set_option maxHeartbeats 16000000
set_option maxRecDepth 100000
namespace Go.Proofs.YtchbedbmjiabgaaGreatDoor
open Go.ChangeAt Go.ChangeShapes Go.RowKit Go.WideShapes Go.Proofs.Tryz
theorem own:ownKnob prog.godebug=none:=by kernel_rfl
theorem mU:laidOutB prog=true:=by kernel_rfl
def IsRow (k:IntKind) (w:World) (a:Option Addr) (len cap:Nat) (zs:List Int):Prop:=
 (a=none∧len=0∧cap=0∧zs=[])∨
 ∃ x,a=some x∧len≤cap∧cap≤maxLen∧zs.length=cap∧(∀ i,i<zs.length→w.cell? (x.add i)=some (.int k (zs.getD i 0)))∧∀ n∈zs,(Lit.int k n).wf=true
theorem bytes5:prog.bytesOf 5=1:=by kernel_rfl
theorem uC {H:Type} {enc:TypeId×Value→H} {W:World} {a:Option Addr} {len cap:Nat} {d:DataW H} {p:List MemPlace}
  (h:DataW.Trod enc prog W 0 (λ_=>true) true 24 (Value.slice a len cap) d p) (hz:∀ n∈DataW.weights prog 24 d,n≤reachBytes):∃ zs,IsRow .u8 W a len cap zs∧cap≤140737488351232:=by obtain ⟨fuel,hf⟩:=h;rcases open_ints underlying24 underlying5 (by kernel_rfl) hf with ⟨hcs,_⟩|⟨x,l,c,zs,hcs,_,hl,hm,hzs,hx,hcell,hwz⟩;simp [Value.cells] at hcs;obtain ⟨rfl,rfl,rfl⟩:=hcs;exact ⟨[],.inl ⟨rfl,rfl,rfl,rfl⟩,by omega⟩;simp [Value.cells] at hcs;obtain ⟨rfl,rfl,rfl⟩:=hcs;simp only [Prod.mk.injEq] at hx;obtain ⟨rfl,_⟩:=hx;simp only [if_true] at hzs;have h1:=hz (((lits (H:=H) .u8 (zs.take len)).length+(lits (H:=H) .u8 (zs.drop len)).length)*prog.bytesOf 5) (by simp [DataW.weights,underlying24]);rw [bytes5] at h1;simp only [lits,aB,aC,aL,reachBytes] at h1;exact ⟨zs,.inr ⟨_,rfl,hl,hm,hzs,hcell,hwz⟩,by omega⟩
theorem fI {w:World} {b o:Nat} {v:Value} (h:w.cell? ⟨b,o,none⟩=some v):b<w.heap.size:=by rcases Nat.lt_or_ge b w.heap.size with h1|h1;exact h1;simp [World.cell?,bJ h1] at h
theorem u8_back {n:Int} (h:(Lit.int .u8 n).wf=true):((UInt8.ofNat n.toNat).toNat:Int)=n:=by simp [Lit.wf,IntKind.min,IntKind.max,IntKind.signed,IntKind.bits] at h;rw [UInt8.toNat_ofNat'];omega
theorem IsRow.bts {w:World} {a:Option Addr} {len cap:Nat} {zs:List Int} (h:IsRow .u8 w a len cap zs):∃ bs:List UInt8,bs.length=len∧Bts w a bs:=by
 rcases h with ⟨rfl,rfl,rfl,rfl⟩|⟨x,rfl,hl,hm,hz,hcell,hwz⟩;exact ⟨[],rfl,.inl rfl⟩
 ·by_cases h0:len=0;exact ⟨[],by simp [h0],.inl rfl⟩
  ·obtain ⟨b,off,spot⟩:=x;have hc:=hcell 0 (by omega);(have hspot:spot=none:=by simpa [Addr.add] using World.cell?_spot hc);subst hspot;rw [cN] at hc;refine ⟨(zs.take len).map λz=>UInt8.ofNat z.toNat,by simp;omega,.inr ⟨b,off,rfl,fI hc,λi hi=>?_⟩⟩;simp only [aB,aC] at hi;(have hi2:i<zs.length:=by omega);have h1:=hcell i hi2;rw [cN] at h1;rw [h1];(have e:((List.map (λz=>UInt8.ofNat z.toNat) (List.take len zs)).getD i 0)=UInt8.ofNat (zs.getD i 0).toNat:=by simp [au,show i<len by omega,ap hi2]);rw [e,u8_back (hwz _ (by rw [au,ap hi2];exact List.getElem_mem _))]
theorem pZ {x:Int} (h:(Lit.int .i64 x).wf=true): -9223372036854775808≤x∧x≤9223372036854775807:=by simp [Lit.wf,IntKind.min,IntKind.max,IntKind.signed,IntKind.bits] at h;omega
section
variable {H:Type} {enc:TypeId×Value→H} {P:Program}
theorem qz {t:TypeId} {fs:Array Field} {ds:List (DataW H)} {j:Nat} {f:Field} {d:DataW H} (hu:P.underlying t=some (.struct fs)) (hf:fs[j]?=some f) (hd:ds[j]?=some d):∀ n∈DataW.weights P f.type d,n∈DataW.weights P t (.agg ds):=by intro n hn;simp only [DataW.weights,hu];refine DataW.weights_mem_each (j:=j) (t:=f.type) ?_ hd n hn;simp [hf]
abbrev Rd (enc:TypeId×Value→H) (P:Program) (W:World) (n:Nat) (t:TypeId) (cs:List Value):Option (DataW H×List MemPlace):=DataW.trod enc P W 0 (λ_=>true) true n t cs
theorem xA {W:World} {t:TypeId} {fs:Array Field} {n:Nat} {cs:List Value} {x:DataW H×List MemPlace} (hu:P.underlying t=some (.struct fs)) (h:Rd enc P W n t cs=some x):
  ∃ m,cs.length=P.cellsOf t∧∀ (j:Nat) (f:Field),fs[j]?=some f→∃ y:DataW H×List MemPlace,Rd enc P W m f.type ((cs.drop f.offset).take (P.cellsOf f.type))=some y∧∀ q∈DataW.weights P f.type y.1,q∈DataW.weights P t x.1:=by obtain ⟨xs,m,_,hx,hl,hlen,hg⟩:=DataW.trod_struct hu h;refine ⟨m,hl,λj f hf=>?_⟩;(have hj:j<xs.length:=by rw [hlen];exact (bj.1 hf).1);have h1:=hg j f hf;rw [ap hj] at h1;refine ⟨_,h1,?_⟩;rw [hx];exact qz hu hf (by simp [ap hj])
theorem tJ {W:World} {t:TypeId} {n:Nat} {c:Value} {k:IntKind} {x:DataW H×List MemPlace} (hu:P.underlying t=some (.int k)) (h:Rd enc P W n t [c]=some x):∃ v:Int,c= .int k v∧(Lit.int k v).wf=true:=by obtain ⟨v,e,_,hw⟩:=DataW.trod_int hu h;exact ⟨v,by simpa using e,hw⟩
end
end Go.Proofs.YtchbedbmjiabgaaGreatDoor
namespace Go.Proofs.YtchbedbmjiabgaaGreatDoor
open Go.RowKit Go.Proofs.Tryz
theorem cC {B:Nat} {a b:World} (h:Below B a b) (n:Nat):Below B a (b.drewN n):=⟨h.os,h.tape,h.output,h.size,h.block⟩
theorem ret_bool {a b:Bool} (h:a=b):Ending.returned (.bool a)= .returned (.bool b):=by rw [h]
def NewB (w:World) (bs:List UInt8) (x:Ending) (w':World):Prop:=
 ∃ oa cap,x= .returned (.slice oa bs.length cap)∧OB w' oa cap bs∧(∀ k,blk oa=some k→w.heap.size≤k)∧Below w.heap.size w w'
theorem one_new (w:World) (b:UInt8):Bts (w.alloc (.cells #[.int .u8 (b.toNat:Int)] 5)) (some ⟨w.heap.size,0,none⟩) [b]:=
 .inr ⟨w.heap.size,0,rfl,by simp,λi hi=>by
  obtain rfl:i=0:=by simp at hi;omega
  have h:=az w (.cells #[.int .u8 (b.toNat:Int)] 5)
  rw [bd _ _ _ _ _ _ h];rfl⟩
theorem sS (w:World) (m:Nat) (hm:m≤140737488355328):∃ w',(Instr.makeSlice 24 (.int .i64 0) (.int .i64 (m:Int))).run prog w= .ok (.slice (some ⟨w.heap.size,0,none⟩) 0 m) w'∧OB w' (some ⟨w.heap.size,0,none⟩) m []∧Below w.heap.size w w'∧w.heap.size<w'.heap.size:=by obtain ⟨i0,hi,hz0,hz1,hz2⟩:=info_parts eB.hi;obtain ⟨w',hr,ho,hg⟩:=run_make_own (P:=prog) (w:=w) 0 24 5 i0 (.int .u8 0) 1 eB.hu hi hz0 hz1 .i64 .i64 m (by rw [hz2];show 1*m≤_;omega) (by unfold maxLen;omega) (aV _);have hO:OB w' (some ⟨w.heap.size,0,none⟩) m []:=ho;exact ⟨w',hr,hO,(aA _ _).grown hg (am _) (λk hk=>by cases hk),hO.lt _ rfl⟩
def markI (i:Nat):Int:=IntKind.u8.wrap (bits .xor .i64 165 (i:Int))
def mark (i:Nat):UInt8:=UInt8.ofNat (markI i).toNat
def full (bs:List UInt8):List UInt8:=bs++(List.range 64).map λj=>mark (bs.length+j)
def Spared (w:World) (g:Nat) (bs:List UInt8):Prop:=OB w (some ⟨g,0,none⟩) (bs.length+64) (full bs)
theorem OB.low {w:World} {oa:Option Addr} {cap:Nat} {bs xs:List UInt8} (h:OB w oa cap (bs++xs)):Bts w oa bs:=by rcases h.bts with h0|⟨b,off,h1,h2,h3⟩;exact .inl (List.append_eq_nil_iff.1 h0).1;refine .inr ⟨b,off,h1,h2,λi hi=>?_⟩;rw [h3 i (by rw [aq];omega)];simp [au,aM hi]
theorem Spared.bts {w:World} {g:Nat} {bs:List UInt8} (h:Spared w g bs):Bts w (some ⟨g,0,none⟩) bs:=OB.low h
theorem Spared.below {w w':World} {g:Nat} {bs:List UInt8} (h:Spared w g bs) (hb:Below w.heap.size w w'):Spared w' g bs:=ag h hb
theorem Spared.chg {F:Nat→Prop} {w w':World} {g:Nat} {bs:List UInt8} (h:Spared w g bs) (hc:Chg F w w') (hn:¬ F g):Spared w' g bs:=OB.chg h hc λk hk=>by cases hk;exact hn
end Go.Proofs.YtchbedbmjiabgaaGreatDoor
namespace Go.Proofs.YtchbedbmjiabgaaGreatDoor
open Go.ChangeAt Go.ChangeShapes Go.RowKit Go.WideShapes Go.Proofs.Tryz
structure PI where
 (key value:List UInt8) (child size:Int)
 deriving DecidableEq
structure PP where
 (kind level:Int) (items:List PI) (data:List UInt8) (next:Int)
 deriving DecidableEq
def i64ok (x:Int):Prop:= -9223372036854775808≤x∧x≤9223372036854775807
def Sl (B:Nat) (w:World) (a:Option Addr) (c:Nat) (bs:List UInt8):Prop:=
 Bts w a bs∧(bs=[]∨∀ k,blk a=some k→k<B)∧bs.length≤140737488351232∧(a=none→c=0)
def itc (x:PI) (ka:Option Addr) (kc:Nat) (va:Option Addr) (vc:Nat):Array Value:=
 #[.slice ka x.key.length kc,.slice va x.value.length vc,.int .i64 x.child,.int .i64 x.size]
structure ItIn (B:Nat) (w:World) (b off:Nat) (x:PI) (ka:Option Addr) (kc:Nat) (va:Option Addr) (vc:Nat):Prop where
 c0:w.cell? ⟨b,off,none⟩=some (.slice ka x.key.length kc)
 c1:w.cell? ⟨b,off+1,none⟩=some (.slice va x.value.length vc)
 c2:w.cell? ⟨b,off+2,none⟩=some (.int .i64 x.child)
 c3:w.cell? ⟨b,off+3,none⟩=some (.int .i64 x.size)
 k:Sl B w ka kc x.key
 v:Sl B w va vc x.value
 ch:i64ok x.child
 sz:i64ok x.size
def ItAt (B:Nat) (w:World) (b off:Nat) (x:PI):Prop:=∃ ka kc va vc,ItIn B w b off x ka kc va vc
def ItsAt (B:Nat) (w:World) (a:Option Addr) (xs:List PI):Prop:=
 xs=[]∨∃ b off,a=some ⟨b,off,none⟩∧b<B∧∀ i x,xs[i]?=some x→ItAt B w b (off+i*4) x
def pgv (p:PP) (ia:Option Addr) (ic:Nat) (da:Option Addr) (dc:Nat):Value:=
 .agg #[.int .i64 p.kind,.int .i64 p.level,.slice ia p.items.length ic,.slice da p.data.length dc,.int .i64 p.next]
structure PgAt (B:Nat) (w:World) (p:PP) (ia:Option Addr) (ic:Nat) (da:Option Addr) (dc:Nat):Prop where
 its:ItsAt B w ia p.items
 len:p.items.length≤9223372036854775807
 inil:ia=none→ic=0
 data:Sl B w da dc p.data
 kd:i64ok p.kind
 lv:i64ok p.level
 nx:i64ok p.next
theorem Sl.below {B:Nat} {w w':World} {a:Option Addr} {c:Nat} {bs:List UInt8} (h:Sl B w a c bs) (hc:Below B w w'):Sl B w' a c bs:=by obtain ⟨h1,h2,h3,h4⟩:=h;refine ⟨?_,h2,h3,h4⟩;rcases h1 with h1|⟨b2,o2,e2,h5,h6⟩;exact .inl h1;by_cases hn:bs=[];exact .inl hn;have hlt:b2<B:=(h2.resolve_left hn) b2 (by rw [e2];rfl);exact .inr ⟨b2,o2,e2,an h5 hc.size,λi hi=>(hc.cell (p:=⟨b2,o2+i,none⟩) hlt).trans (h6 i hi)⟩
theorem Sl.mono {B C:Nat} {w:World} {a:Option Addr} {c:Nat} {bs:List UInt8} (h:Sl B w a c bs) (hc:B≤C):Sl C w a c bs:=
 ⟨h.1,h.2.1.imp id λg k hk=>an (g k hk) hc,h.2.2⟩
theorem ItIn.below {B b off:Nat} {w w':World} {x:PI} {ka:Option Addr} {kc:Nat} {va:Option Addr} {vc:Nat} (h:ItIn B w b off x ka kc va vc) (hb:b<B) (hc:Below B w w'):ItIn B w' b off x ka kc va vc:=by have e:∀ k,w'.cell? ⟨b,k,none⟩=w.cell? ⟨b,k,none⟩:=λk=>hc.cell (p:=⟨b,k,none⟩) hb;exact ⟨(e _).trans h.c0,(e _).trans h.c1,(e _).trans h.c2,(e _).trans h.c3,h.k.below hc,h.v.below hc,h.ch,h.sz⟩
theorem ItAt.below {B b off:Nat} {w w':World} {x:PI} (h:ItAt B w b off x) (hb:b<B) (hc:Below B w w'):ItAt B w' b off x:=by obtain ⟨ka,kc,va,vc,h⟩:=h;exact ⟨ka,kc,va,vc,h.below hb hc⟩
theorem ItIn.mono {B C b off:Nat} {w:World} {x:PI} {ka:Option Addr} {kc:Nat} {va:Option Addr} {vc:Nat} (h:ItIn B w b off x ka kc va vc) (hc:B≤C):ItIn C w b off x ka kc va vc:=
 ⟨h.c0,h.c1,h.c2,h.c3,h.k.mono hc,h.v.mono hc,h.ch,h.sz⟩
theorem ItsAt.below {B:Nat} {w w':World} {a:Option Addr} {xs:List PI} (h:ItsAt B w a xs) (hc:Below B w w'):ItsAt B w' a xs:=by rcases h with h|⟨b,off,h1,h2,h3⟩;exact .inl h;exact .inr ⟨b,off,h1,h2,λi x hi=>(h3 i x hi).below h2 hc⟩
theorem ItsAt.mono {B C:Nat} {w:World} {a:Option Addr} {xs:List PI} (h:ItsAt B w a xs) (hc:B≤C):ItsAt C w a xs:=by rcases h with h|⟨b,off,h1,h2,h3⟩;exact .inl h;exact .inr ⟨b,off,h1,an h2 hc,λi x hi=>by obtain ⟨ka,kc,va,vc,g⟩:=h3 i x hi;exact ⟨ka,kc,va,vc,g.mono hc⟩⟩
theorem ItsAt.at {B:Nat} {w:World} {a:Option Addr} {xs:List PI} (h:ItsAt B w a xs) {i:Nat} {x:PI} (hi:xs[i]?=some x):∃ b off ka kc va vc,a=some ⟨b,off,none⟩∧b<B∧ItIn B w b (off+i*4) x ka kc va vc:=by rcases h with rfl|⟨b,off,h1,h2,h3⟩;simp at hi;obtain ⟨ka,kc,va,vc,g⟩:=h3 i x hi;exact ⟨b,off,ka,kc,va,vc,h1,h2,g⟩
theorem PgAt.below {B:Nat} {w w':World} {p:PP} {ia:Option Addr} {ic:Nat} {da:Option Addr} {dc:Nat} (h:PgAt B w p ia ic da dc) (hc:Below B w w'):PgAt B w' p ia ic da dc:=
 ⟨h.its.below hc,h.len,h.inil,h.data.below hc,h.kd,h.lv,h.nx⟩
theorem PgAt.mono {B C:Nat} {w:World} {p:PP} {ia:Option Addr} {ic:Nat} {da:Option Addr} {dc:Nat} (h:PgAt B w p ia ic da dc) (hc:B≤C):PgAt C w p ia ic da dc:=
 ⟨h.its.mono hc,h.len,h.inil,h.data.mono hc,h.kd,h.lv,h.nx⟩
section
variable {H:Type} {enc:TypeId×Value→H}
end
end Go.Proofs.YtchbedbmjiabgaaGreatDoor
namespace Go.Proofs.YtchbedbmjiabgaaGreatDoor
open Go.RowKit Go.Proofs.Tryz
theorem oY {P:Program} {w:World} {a:Option Addr} {bs:List UInt8} {c:Nat} (h:Bts w a bs):(Extern.Bytes.bytesOf (.slice a bs.length c)).run P w= .ok ⟨bs.toArray⟩ w:=by rcases h with rfl|⟨b,off,rfl,_,hc⟩;cases a<;>rfl;have h:=Lib.run_loadBytesX (P:=P) w (bs.map λb=>(b.toNat:Int)) ⟨b,off,none⟩ .empty (λj x hj=>by have hjl:=(ar.1 hj).1;rw [aB] at hjl;rw [cN,hc j hjl];rw [aY,ap hjl] at hj;simp only [Option.map_some,bK] at hj;rw [←hj,au,ap hjl];rfl);rw [aB] at h;show (Extern.Bytes.loadBytes ⟨b,off,none⟩ bs.length .empty).run P w=_;rw [h];congr 1;apply ByteArray.ext;show (#[]:Array UInt8)++(Lib.bytesOf (bs.map λb=>(b.toNat:Int))).toArray=bs.toArray;simp [Lib.bytesOf,Function.comp_def]
theorem z7 {P:Program} {w:World} {a b:Option Addr} {xs ys:List UInt8} {c d:Nat} (ha:Bts w a xs) (hb:Bts w b ys):
  (Extern.BytealgCompare.compare #[.slice a xs.length c,.slice b ys.length d]).run P w= .ok (.int .i64 (Lib.compareBytes xs ys)) w:=by change Sem.run P (do pure (goInt (Extern.BytealgCompare.cmp (←Extern.Bytes.bytesOf (.slice a xs.length c)) (←Extern.Bytes.bytesOf (.slice b ys.length d))))) w=_;simp only [Sem.run_bind,Sem.run_pure,Result.andThen,oY ha,oY hb];rw [Lib.cmp_eq];rfl
theorem dI (xs ys:List UInt8) (a b:Option Addr) (c d:Nat) (w:World) (ha:Bts w a xs) (hb:Bts w b ys):
  Calls prog 158 #[.slice a xs.length c,.slice b ys.length d] w λe w'=>e= .returned (.int .i64 (Lib.compareBytes xs ys))∧w'=w:=by have H:=Hd (z7 (P:=prog) (c:=c) (d:=d) ha hb);generalize Lib.compareBytes xs ys=r at H⊢;generalize xs.length=n at H⊢;generalize ys.length=m at H⊢;clear ha hb;go_enter func158,ntmps158;go_wp2_with fail;rw [run_callFunc_extern func183 (by kernel_rfl) (by kernel_rfl) (by kernel_rfl) (e:=Extern.BytealgCompare.compare) (by kernel_rfl),H.out];simp only [Result.andThen];rw [Oper.upon_value];go_wp2_with fail;go_ret;exact ⟨rfl,rfl⟩
theorem kK {a b:Int} (h:a=b):Ending.returned (.int .i64 a)= .returned (.int .i64 b):=by rw [h]
def isPg (n:Int):Bool:=decide (1≤n)&&decide (n≤65536)
def dU (kind level:Int) (n m:Nat) (next:Int):Bool:=
 if kind=3 then level==0&&n==0&&decide (1≤m)&&decide (m≤480)
 else if 0<m∨next≠0∨8<n then false
 else if kind=1 then level==0&&decide (1≤n)
 else decide (1≤level)&&decide (level≤11)&&decide (2≤n)
def jb (kind:Int) (i:Nat) (x:PI):Bool:=if kind=2∧i=0 then x.key.length==0 else decide (1≤x.key.length)&&decide (x.key.length≤24)
def dF (kind:Int) (x:PI):Bool:=
 if kind=2 then x.value.length==0&&x.size==0
 else if x.size<0||decide (3840<x.size) then false
 else if x.size≤32 then (x.value.length:Int)==x.size else x.value.length==0
def eG (kind:Int) (x:PI):Bool:=if kind=1∧x.size≤32 then x.child==0 else isPg x.child
def fq (kind:Int) (i:Nat) (above:List UInt8) (x:PI):Int:=
 if jb kind i x=false then 7
 else if 0<i∧Lib.compareBytes x.key above≤0 then 11
 else if dF kind x=false then 8
 else if eG kind x=false then 15
 else 0
def iT (xs:List PI) (i:Nat):List UInt8:=match xs[i-1]? with|some y=>y.key|none=>[]
def gN (kind:Int) (xs:List PI) (i:Nat):Int:=match xs[i]? with|some x=>fq kind i (iT xs i) x|none=>0
def cQ (f:Nat→Int):Nat→Int
 |0=>0
 |n+1=>if cQ f n=0 then f n else cQ f n
def dp (p:PP):Int:=
 if p.kind<1∨3<p.kind then 22
 else if dU p.kind p.level p.items.length p.data.length p.next=false then 5
 else if cQ (gN p.kind p.items) p.items.length≠0 then cQ (gN p.kind p.items) p.items.length
 else if p.kind=3∧p.next≠0∧isPg p.next=false then 15
 else 0
theorem dA (w:World) (o1 o2:Obj):Below w.heap.size w ((w.alloc o1).alloc o2):=((aA _ _).alloc (am _) _).alloc ((aA _ _).alloc (am _) _).size _
theorem bY (w:World) (o1:Obj):Below w.heap.size w (w.alloc o1):=(aA _ _).alloc (am _) _
theorem dw (n:Int) (w:World):Calls prog 148 #[.int .i64 n] w λe w'=>e= .returned (.bool (isPg n))∧w'=w:=by go_enter func148,ntmps148;go_wp2_with fail;all_goals go_ret;refine ⟨ret_bool ?_,rfl⟩;grind [isPg]
def Formed (kind level:Int) (n m:Nat) (next:Int) (w:World) (e:Ending) (w':World):Prop:=(∃ b:Bool,e= .returned (.bool b)∧(1≤kind→kind≤3→b=dU kind level n m next))∧Below w.heap.size w w'
theorem iH (p:PP) (ia:Option Addr) (ic:Nat) (da:Option Addr) (dc:Nat) (w:World):
  Calls prog 157 #[pgv p ia ic da dc] w (Formed p.kind p.level p.items.length p.data.length p.next w):=by
   obtain ⟨kind,level,items,data,next⟩:=p;simp only [pgv];generalize items.length=n;generalize data.length=m;have HB:=Hd (bY w);by_cases hm:(m:Int)=0
   ·(obtain rfl:m=0:=by omega);clear hm;(by_cases hnx:next=0);(focus subst hnx);rotate_left;(focus (have hd:decide (next=0)=false:=by simpa using hnx);have hd2:(next==0)=false:=by simpa using hnx);all_goals go_enter func157,ntmps157;go_wp2_with fail;go_quiet (fail);go_wp2_with fail;all_goals go_ret;refine ⟨⟨_,rfl,λh1 h2=>?_⟩,cC (HB.out _) _⟩;clear HB;simp only [dU];grind
   ·(have hd:decide ((m:Int)=0)=false:=by simpa using hm);(have hd2:((m:Int)==0)=false:=by simpa using hm);go_enter func157,ntmps157;go_wp2_with fail;go_quiet (fail);go_wp2_with fail;all_goals go_ret;refine ⟨⟨_,rfl,λh1 h2=>?_⟩,cC (HB.out _) _⟩;clear HB;simp only [dU];grind
end Go.Proofs.YtchbedbmjiabgaaGreatDoor
namespace Go.Proofs.YtchbedbmjiabgaaGreatDoor
open Go.Proofs.Tryz
def d9 (kind:Int) (x:PI):List UInt8:=
 leb 1 x.key.length++(x.key++((if kind=1 then leb 2 x.size.toNat else [])++(if kind=1∧x.size≤32 then x.value else leb 4 x.child.toNat)))
def dj (kind:Int) (xs:List PI):List UInt8:=xs.flatMap (d9 kind)
theorem mD {kind:Int} {xs:List PI} {k:Nat} {x:PI} (h:xs[k]?=some x):dj kind (xs.take (k+1))=dj kind (xs.take k)++d9 kind x:=by rw [bm,h];simp [dj]
def kh (no gen:Nat) (p:PP):List UInt8:=UInt8.ofNat (p.kind.toNat%256)::UInt8.ofNat (p.level.toNat%256)::(leb 4 no++leb 8 gen)
def fC (p:PP):List UInt8:=if p.kind=3 then leb 2 p.data.length++(leb 4 p.next.toNat++p.data) else leb 1 p.items.length++dj p.kind p.items
def ja (no gen:Nat) (p:PP):List UInt8:=kh no gen p++fC p
def dC (no gen:Nat) (p:PP):List UInt8:=summed (fullB (ja no gen p))
structure RightI (kind:Int) (x:PI):Prop where
 key:x.key.length≤24
 leaf:kind=1→0≤x.size∧x.size≤3840
 small:kind=1→x.size≤32→(x.value.length:Int)=x.size∧x.child=0
 child:¬ (kind=1∧x.size≤32)→1≤x.child∧x.child≤65536
 none:¬ (kind=1∧x.size≤32)→x.value=[]
 zero:kind≠1→x.size=0
structure RightP (p:PP):Prop where
 kind:1≤p.kind∧p.kind≤3
 level:0≤p.level∧p.level≤11
 items:p.items.length≤8
 blob:p.kind=3→p.items=[]∧1≤p.data.length∧p.data.length≤480
 data:p.kind≠3→p.data=[]∧p.next=0
 next:0≤p.next∧p.next≤65536
 all:∀ (i:Nat) (x:PI),p.items[i]?=some x→RightI p.kind x
theorem lA {f:Nat→Int}:∀ {n:Nat},cQ f n=0→∀ i,i<n→f i=0
 |0,_,i,hi=>by omega
 |n+1,h,i,hi=>by
  simp only [cQ] at h;split at h
  ·rename_i h0;by_cases e:i=n;subst e;exact h;exact lA h0 i (by omega)
  contradiction
theorem oP {kind:Int} {i:Nat} {above:List UInt8} {x:PI} (hk:1≤kind∧kind≤2) (h:fq kind i above x=0):RightI kind x:=by
 unfold fq at h;split at h;cases h;rename_i h1;split at h;cases h;split at h;cases h;rename_i h3;split at h;cases h;rename_i h4;have h1:jb kind i x=true:=by simpa using h1
 have h3:dF kind x=true:=by simpa using h3
 have h4:eG kind x=true:=by simpa using h4
 have hv:x.value.length=0→x.value=[]:=bF.1;refine ⟨?_,?_,?_,?_,?_,?_⟩;unfold jb at h1;grind;unfold dF at h3;grind;unfold dF at h3;unfold eG at h4;grind;unfold eG isPg at h4;grind;unfold dF at h3;grind;unfold dF at h3;grind
theorem gk {p:PP} (h:dp p=0):RightP p:=by
 unfold dp at h;split at h;cases h;rename_i h1;split at h;cases h;rename_i h2;split at h;contradiction;rename_i h3;split at h;cases h;rename_i h4;have h2:dU p.kind p.level p.items.length p.data.length p.next=true:=by simpa using h2
 have h3:cQ (gN p.kind p.items) p.items.length=0:=by simpa using h3
 have hi:p.items.length=0→p.items=[]:=bF.1;have hd:p.data.length=0→p.data=[]:=bF.1;have ha:p.kind≠3→∀ (i:Nat) (x:PI),p.items[i]?=some x→RightI p.kind x:=by intro hk i x hx;have h0:=lA h3 i (ar.1 hx).1;unfold gN at h0;rw [hx] at h0;exact oP (by omega) h0
 refine ⟨by omega,?_,?_,?_,?_,?_,?_⟩;unfold dU at h2;grind;unfold dU at h2;grind;unfold dU at h2;grind;unfold dU at h2;grind;unfold dU at h2;unfold isPg at h4;grind
 ·intro i x hx;by_cases hk:p.kind=3
  ·(have h5:p.items=[]:=by unfold dU at h2;grind);rw [h5] at hx;simp at hx
  exact ha hk i x hx
theorem RightI.length {kind:Int} {x:PI} (h:RightI kind x):(d9 kind x).length≤59:=by have h1:=h.key;unfold d9;simp only [aq,cd];by_cases hk:kind=1;by_cases hs:x.size≤32;have h2:=(h.small hk hs).1;rw [bh hk,bh ⟨hk,hs⟩,cd];omega;rw [bh hk,bg (λg=>hs g.2),cd,cd];omega;rw [bg hk,bg (λg=>hk g.1),cd];simp;omega
theorem j3 {kind:Int}:∀ {xs:List PI},(∀ (i:Nat) (x:PI),xs[i]?=some x→RightI kind x)→(dj kind xs).length≤59*xs.length
 |[],_=>by simp [dj]
 |x::xs,h=>by have h1:=(h 0 x rfl).length;have h2:=j3 (kind:=kind) (xs:=xs) λi y hy=>h (i+1) y (by simpa using hy);have e:dj kind (x::xs)=d9 kind x++dj kind xs:=rfl;rw [e,aq,aG];omega
theorem oN (no gen:Nat) (p:PP):(kh no gen p).length=14:=by simp [kh,cd]
theorem RightP.body {p:PP} (h:RightP p) (no gen:Nat):(ja no gen p).length≤508:=by
 unfold ja fC;rw [aq,oN];have h1:=h.items;split
 ·rename_i hk;have h2:=h.blob hk;simp only [aq,cd];omega
 have h2:=j3 h.all;simp only [aq,cd];omega
theorem oO {p:PP} (h:RightP p) (no gen:Nat):(dC no gen p).length=512:=by rw [dC,eS,cM (h.body no gen)]
def piece (bs:List UInt8) (o k:Nat):List UInt8:=(bs.drop o).take k
def qZ (kind:Int) (bs:List UInt8) (o:Nat):PI×Nat:=
 let k:=fld bs o 1
 if kind=1 then
  let s:=fld bs (o+1+k) 2
  if s≤32 then (⟨piece bs (o+1) k,piece bs (o+1+k+2) s,0,s⟩,o+1+k+2+s)
  else (⟨piece bs (o+1) k,[],fld bs (o+1+k+2) 4,s⟩,o+1+k+2+4)
 else (⟨piece bs (o+1) k,[],fld bs (o+1+k) 4,0⟩,o+1+k+4)
def dst (kind:Int) (bs:List UInt8):Nat→Nat×List PI
 |0=>(15,[])
 |i+1=>((qZ kind bs (dst kind bs i).1).2,(dst kind bs i).2++[(qZ kind bs (dst kind bs i).1).1])
def jq (bs:List UInt8):PP:=
 if fld bs 0 1=3 then ⟨3,fld bs 1 1,[],piece bs 20 (fld bs 14 2),fld bs 16 4⟩
 else ⟨fld bs 0 1,fld bs 1 1,(dst (fld bs 0 1:Nat) bs (min (fld bs 14 1) 9)).2,[],0⟩
def cz:PP:=⟨0,0,[],[],0⟩
def pdec (no:Int) (bs:List UInt8):Int×PP×Nat:=
 if isPg no=false then (15,cz,0) else if bs.length≠512 then (16,cz,0)
 else if unle (bs.drop 508)≠Crc.ofs (bs.take 508) then (6,cz,0)
 else if (fld bs 2 4:Int)≠no then (25,cz,0)
 else if fld bs 6 8≤1099511627776∧dp (jq bs)=0∧dC no.toNat (fld bs 6 8) (jq bs)=bs then (0,jq bs,fld bs 6 8) else (5,cz,0)
theorem Ah (x y:List UInt8) (k:Nat) (h:x.length=k):piece (x++y) 0 k=x:=by unfold piece;rw [ax,bG (by omega),av (by omega)]
theorem AO {α:Type} (x y:List α) {n:Nat} (h:n=x.length):(x++y).drop n=y:=by subst h;simp
theorem AM (bs:List UInt8) (o i k:Nat):fld bs (o+i) k=fld (bs.drop o) i k:=by unfold fld;rw [bT]
theorem uA (bs:List UInt8) (o i k:Nat):piece bs (o+i) k=piece (bs.drop o) i k:=by unfold piece;rw [bT]
theorem ei (k n:Nat) (y:List UInt8) (h:n<256^k) {bs:List UInt8} {o:Nat} (e:bs.drop o=leb k n++y):fld bs o k=n:=by have:=AM bs o 0 k;rw [Nat.add_zero] at this;rw [this,e];exact fld_at k n y h
theorem iX {x y:List UInt8} {k:Nat} (h:x.length=k) {bs:List UInt8} {o:Nat} (e:bs.drop o=x++y):piece bs o k=x:=by have:=uA bs o 0 k;rw [Nat.add_zero] at this;rw [this,e];exact Ah x y k h
theorem cT {x y bs:List UInt8} {k o:Nat} (h:x.length=k) (e:bs.drop o=x++y):bs.drop (o+k)=y:=by rw [←bT,e];exact AO x y h.symm
theorem ol {kind:Int} {x:PI} (h:RightI kind x) {bs y:List UInt8} {o:Nat} (e:bs.drop o=d9 kind x++y):qZ kind bs o=(x,o+(d9 kind x).length):=by
 obtain ⟨key,value,child,size⟩:=x;have hk:=h.key;have hlen:(d9 kind ⟨key,value,child,size⟩).length=1+(key.length+((if kind=1 then leb 2 size.toNat else []).length+(if kind=1∧size≤32 then value else leb 4 child.toNat).length)):=by unfold d9;simp only [aq,cd]
 rw [hlen];unfold d9 at e;simp only [aQ] at e hk;have e1:=cT (cd 1 _) e;have e2:=cT rfl e1;have f0:=ei 1 key.length _ (by simp;omega) e;have f1:=iX rfl e1;unfold qZ;simp only [f0];by_cases h1:kind=1;subst h1;rw [bh rfl] at e2⊢;rw [bh rfl];have hs:=h.leaf rfl;simp only at hs;have f2:=ei 2 size.toNat _ (by simp;omega) e2;have e3:=cT (cd 2 _) e2;rw [f2,f1];by_cases h32:size≤32;rw [bh ⟨rfl,h32⟩] at e3;rw [bh (show size.toNat≤32 by omega),bh ⟨rfl,h32⟩];obtain ⟨hv,hc⟩:=h.small rfl h32;simp only at hv hc;subst hc;have f3:=iX (k:=size.toNat) (by omega) e3;rw [f3,cd];simp only [Prod.mk.injEq,PI.mk.injEq,true_and];omega;rw [bg (λg=>h32 g.2)] at e3;rw [bg (show ¬ size.toNat≤32 by omega),bg (λg=>h32 g.2)];have hc:=h.child λg=>h32 g.2;have hv:=h.none λg=>h32 g.2;simp only at hc hv;subst hv;have f3:=ei 4 child.toNat _ (by simp;omega) e3;rw [f3,cd,cd];simp only [Prod.mk.injEq,PI.mk.injEq,true_and];omega;rw [bg h1] at e2⊢;rw [bg h1];rw [bg (λg=>h1 g.1)] at e2⊢;have hc:=h.child λg=>h1 g.1;have hv:=h.none λg=>h1 g.1;have hz:=h.zero h1;simp only at hc hv hz;subst hv hz;rw [a7] at e2;have f3:=ei 4 child.toNat _ (by simp;omega) e2;rw [f3,f1,cd];simp only [Prod.mk.injEq,PI.mk.injEq,true_and,and_true,aR];omega
theorem nN {kind:Int} {xs:List PI} (h:∀ (i:Nat) (x:PI),xs[i]?=some x→RightI kind x) {bs y:List UInt8} (e:bs.drop 15=dj kind xs++y):
  ∀ i,i≤xs.length→dst kind bs i=(15+(dj kind (xs.take i)).length,xs.take i)∧bs.drop (15+(dj kind (xs.take i)).length)=dj kind (xs.drop i)++y:=by
   intro i;induction i with
   |zero=>intro _;refine ⟨rfl,?_⟩;simpa [dj] using e
   |succ i ih=>intro hi;obtain ⟨h1,h2⟩:=ih (by omega);have hx:=ap (l:=xs) (i:=i) (by omega);generalize xs[i]=x at hx;(have hd:xs.drop i=x::xs.drop (i+1):=by rw [List.drop_eq_getElem_cons (by omega)];rw [ap (by omega)] at hx;rw [a8 hx]);(have h3:dj kind (xs.drop i)=d9 kind x++dj kind (xs.drop (i+1)):=by rw [hd];rfl);rw [h3,aQ] at h2;have h4:=ol (h i x hx) h2;have h5:=cT rfl h2;(have h6:15+(dj kind (xs.take (i+1))).length=15+(dj kind (xs.take i)).length+(d9 kind x).length:=by rw [mD hx,aq,Nat.add_assoc]);rw [h6];refine ⟨?_,h5⟩;rw [dst,h1];simp only [h4];rw [bm,hx];rfl
theorem vi (b:List UInt8) (n:Nat) (h:n≤b.length):∃ y,(summed (fullB b)).drop n=b.drop n++y:=by refine ⟨List.replicate (508-b.length) 0++leb 4 (Crc.ofs (fullB b)),?_⟩;unfold summed;rw [show fullB b++leb 4 (Crc.ofs (fullB b))=b++(List.replicate (508-b.length) 0++leb 4 (Crc.ofs (fullB b))) by simp [fullB],List.drop_append_of_le_length h]
theorem jR {bs y:List UInt8} {o:Nat} {b:UInt8} (e:bs.drop o=b::y):fld bs o 1=b.toNat:=by unfold fld;rw [e];simp [unle]
theorem qB {p:PP} (h:RightP p) (no gen:Nat) (hn:no<4294967296) (hg:gen<18446744073709551616):
  fld (dC no gen p) 0 1=p.kind.toNat∧fld (dC no gen p) 1 1=p.level.toNat∧fld (dC no gen p) 2 4=no∧fld (dC no gen p) 6 8=gen∧∃ y,(dC no gen p).drop 14=fC p++y:=by obtain ⟨y,hy⟩:=vi (ja no gen p) 0 (aV _);rw [ax] at hy;(have e0:(dC no gen p).drop 0=UInt8.ofNat (p.kind.toNat%256)::(UInt8.ofNat (p.level.toNat%256)::(leb 4 no++(leb 8 gen++(fC p++y)))):=by rw [ax];unfold dC;rw [ax] at hy;rw [hy];simp [ja,kh]);(have e1:(dC no gen p).drop 1=UInt8.ofNat (p.level.toNat%256)::(leb 4 no++(leb 8 gen++(fC p++y))):=by have:=cT (x:=[UInt8.ofNat (p.kind.toNat%256)]) rfl e0;exact this);(have e2:(dC no gen p).drop 2=leb 4 no++(leb 8 gen++(fC p++y)):=by have:=cT (x:=[UInt8.ofNat (p.level.toNat%256)]) rfl e1;exact this);have e3:=cT (cd 4 _) e2;have e4:=cT (cd 8 _) e3;have hk:=h.kind;have hl:=h.level;refine ⟨?_,?_,ei 4 no _ hn e2,ei 8 gen _ hg e3,y,e4⟩;rw [jR e0,UInt8.toNat_ofNat'];omega;rw [jR e1,UInt8.toNat_ofNat'];omega
theorem tq {p:PP} (h:RightP p) (no gen:Nat) (hn:no<4294967296) (hg:gen<18446744073709551616):jq (dC no gen p)=p:=by obtain ⟨f0,f1, -, -,y,e⟩:=qB h no gen hn hg;generalize dC no gen p=bs at*;have hk:=h.kind;have hl:=h.level;unfold jq;rw [f0,f1];unfold fC at e;by_cases h3:p.kind=3;rw [bh (by omega)];rw [bh h3] at e;obtain ⟨hi,hd1,hd2⟩:=h.blob h3;have hx:=h.next;simp only [aQ] at e;have e1:=cT (cd 2 _) e;have e2:=cT (cd 4 _) e1;rw [ei 2 p.data.length _ (by simp;omega) e,ei 4 p.next.toNat _ (by simp;omega) e1,iX rfl e2];obtain ⟨kind,level,items,data,next⟩:=p;simp only at hi h3 hl hx;subst hi h3;simp only [PP.mk.injEq,true_and];omega;rw [bg (by omega)];rw [bg h3] at e;have hi:=h.items;obtain ⟨hd,hx⟩:=h.data h3;simp only [aQ] at e;have e1:=cT (cd 1 _) e;rw [ei 1 p.items.length _ (by simp;omega) e,show ((p.kind.toNat:Nat):Int)=p.kind by omega,show min p.items.length 9=p.items.length by omega,(nN h.all e1 _ (am _)).1];rw [List.take_length];obtain ⟨kind,level,items,data,next⟩:=p;simp only at hd hl hx;subst hd hx;simp only [PP.mk.injEq,true_and,and_true];omega
theorem Ak {no:Int} {bs:List UInt8} {p:PP} {gen:Nat} (h:pdec no bs=(0,p,gen)):isPg no=true∧gen≤1099511627776∧dp p=0∧dC no.toNat gen p=bs:=by
 unfold pdec at h;repeat' split at h
 all_goals first
  |(cases h;done)
  |skip
 rename_i h1 _ _ _ g;cases h;exact ⟨by simpa using h1,g⟩
structure PR where
 (at_:Nat) (ok:Bool)
def cP (bs:List UInt8) (r:PR) (n:Nat):List UInt8×PR:=
 if r.ok=false∨bs.length<r.at_+n then ([],⟨r.at_,false⟩) else (piece bs r.at_ n,⟨r.at_+n,true⟩)
def pnum (bs:List UInt8) (r:PR) (n:Nat):Nat×PR:=(unle (cP bs r n).1,(cP bs r n).2)
def ew (kind:Int) (bs:List UInt8) (r:PR):PI×PR:=
 let k:=pnum bs r 1
 let y:=cP bs k.2 k.1
 if kind=1 then
  let s:=pnum bs y.2 2
  if s.1≤32 then (⟨y.1,(cP bs s.2 s.1).1,0,s.1⟩,(cP bs s.2 s.1).2)
  else (⟨y.1,[],(pnum bs s.2 4).1,s.1⟩,(pnum bs s.2 4).2)
 else (⟨y.1,[],(pnum bs y.2 4).1,0⟩,(pnum bs y.2 4).2)
def pst (kind:Int) (bs:List UInt8) (r:PR):Nat→PR×List PI
 |0=>(r,[])
 |i+1=>((ew kind bs (pst kind bs r i).1).2,(pst kind bs r i).2++[(ew kind bs (pst kind bs r i).1).1])
theorem iW (kind:Int) (bs:List UInt8) (r:PR) (i:Nat):(pst kind bs r i).2.length=i:=by
 induction i with
 |zero=>rfl
 |succ i ih=>simp [pst,ih]
def dB (bs:List UInt8):PP×PR:=
 let k:=pnum bs ⟨0,true⟩ 1
 let l:=pnum bs k.2 1
 let n:=pnum bs l.2 4
 let g:=pnum bs n.2 8
 if k.1=3 then
  let m:=pnum bs g.2 2
  let x:=pnum bs m.2 4
  (⟨3,l.1,[],(cP bs x.2 m.1).1,x.1⟩,(cP bs x.2 m.1).2)
 else
  let c:=pnum bs g.2 1
  (⟨k.1,l.1,(pst k.1 bs c.2 c.1).2,[],0⟩,(pst k.1 bs c.2 c.1).1)
def dX (bs:List UInt8) (r:PR):Bool:=(bs.drop r.at_).all (· ==0)&&r.ok
theorem iA {bs:List UInt8} {r:PR} {n:Nat} (h:(cP bs r n).2.ok=true):r.ok=true∧r.at_+n≤bs.length∧cP bs r n=(piece bs r.at_ n,⟨r.at_+n,true⟩):=by
 unfold cP at*;split at h;cases h
 ·rename_i g;rw [bg g];refine ⟨?_,by omega,rfl⟩;cases hr:r.ok;exact absurd (Or.inl hr) g;rfl
theorem iP {bs:List UInt8} {r:PR} {n:Nat} (h:(pnum bs r n).2.ok=true):r.ok=true∧r.at_+n≤bs.length∧pnum bs r n=(fld bs r.at_ n,⟨r.at_+n,true⟩):=by obtain ⟨h1,h2,h3⟩:=iA (n:=n) (r:=r) (bs:=bs) h;refine ⟨h1,h2,?_⟩;unfold pnum;rw [h3];rfl
theorem cW {bs:List UInt8} {o n:Nat} (h:o+n≤bs.length):pnum bs ⟨o,true⟩ n=(fld bs o n,⟨o+n,true⟩):=by unfold pnum cP;rw [bg (by intro g;rcases g with g|g;cases g;simp at g;omega)];rfl
theorem gB {bs:List UInt8} {o n:Nat} (h:o+n≤bs.length):cP bs ⟨o,true⟩ n=(piece bs o n,⟨o+n,true⟩):=by unfold cP;rw [bg (by intro g;rcases g with g|g;cases g;simp at g;omega)]
theorem dR {bs:List UInt8} {o n:Nat} (h:o+n≤bs.length):(piece bs o n).length=n:=by unfold piece;rw [aC,aL];omega
theorem db {bs:List UInt8} {o m n:Nat}:piece bs o (m+n)=piece bs o m++piece bs (o+m) n:=by unfold piece;rw [List.take_add,bT]
theorem eu {bs:List UInt8} {o n:Nat} (h:o+n≤bs.length):leb n (fld bs o n)=piece bs o n:=pC (dR h)
theorem fY (bs:List UInt8) (o k:Nat):fld bs o k<256^k:=by have h:=dV ((bs.drop o).take k);exact an h (Nat.pow_le_pow_right (by decide) (by rw [aC];omega))
theorem Ag {kind:Int} {bs:List UInt8} {r:PR} (h:(ew kind bs r).2.ok=true):
  r.ok=true∧(ew kind bs r).2.at_≤bs.length∧r.at_≤(ew kind bs r).2.at_∧d9 kind (ew kind bs r).1=piece bs r.at_ ((ew kind bs r).2.at_-r.at_):=by unfold ew at*;simp only at h⊢;by_cases h1:kind=1;rw [bh h1] at h⊢;by_cases h2:(pnum bs (cP bs (pnum bs r 1).2 (pnum bs r 1).1).2 2).1≤32;rw [bh h2] at h⊢;obtain ⟨a1,a2,a3⟩:=iA h;rw [a3];obtain ⟨b1,b2,b3⟩:=iP a1;rw [b3] at a2 h2⊢;obtain ⟨c1,c2,c3⟩:=iA b1;rw [c3] at a2 b2 h2⊢;obtain ⟨d1,d2,d3⟩:=iP c1;rw [d3] at a2 b2 c2 h2⊢;simp only at a2 b2 c2 d2 h2⊢;refine ⟨d1,by omega,by omega,?_⟩;unfold d9;simp only;rw [bh h1,bh ⟨h1,by omega⟩,dR c2,eu d2,Int.toNat_natCast,eu b2,←db,←db,←db];congr 1;omega;rw [bg h2] at h⊢;obtain ⟨a1,a2,a3⟩:=iP h;rw [a3];obtain ⟨b1,b2,b3⟩:=iP a1;rw [b3] at a2 h2⊢;obtain ⟨c1,c2,c3⟩:=iA b1;rw [c3] at a2 b2 h2⊢;obtain ⟨d1,d2,d3⟩:=iP c1;rw [d3] at a2 b2 c2 h2⊢;simp only at a2 b2 c2 d2 h2⊢;refine ⟨d1,by omega,by omega,?_⟩;unfold d9;simp only;rw [bh h1,bg (λg=>by have:=g.2;omega),dR c2,eu d2,Int.toNat_natCast,Int.toNat_natCast,eu b2,eu a2,←db,←db,←db];congr 1;omega;rw [bg h1] at h⊢;obtain ⟨a1,a2,a3⟩:=iP h;rw [a3];obtain ⟨c1,c2,c3⟩:=iA a1;rw [c3] at a2⊢;obtain ⟨d1,d2,d3⟩:=iP c1;rw [d3] at a2 c2⊢;simp only at a2 c2 d2⊢;refine ⟨d1,by omega,by omega,?_⟩;unfold d9;simp only;rw [bg h1,bg (λg=>h1 g.1),dR c2,eu d2,Int.toNat_natCast,eu a2,a7,←db,←db];congr 1;omega
theorem zw {kind:Int} {bs:List UInt8} {r:PR}:∀ (i:Nat),(pst kind bs r i).1.ok=true→r.ok=true∧((pst kind bs r i).1.at_≤bs.length∨i=0)∧r.at_≤(pst kind bs r i).1.at_∧dj kind (pst kind bs r i).2=piece bs r.at_ ((pst kind bs r i).1.at_-r.at_)
 |0,h=>⟨h,.inr rfl,am _,by simp [pst,dj,piece]⟩
 |i+1,h=>by
  rw [pst] at h⊢;simp only at h⊢;obtain ⟨a1,a2,a3,a4⟩:=Ag h;obtain ⟨b1,b2,b3,b4⟩:=zw i a1;refine ⟨b1,.inl a2,by omega,?_⟩;have e:dj kind ((pst kind bs r i).2++[(ew kind bs (pst kind bs r i).1).1])=dj kind (pst kind bs r i).2++d9 kind (ew kind bs (pst kind bs r i).1).1:=by simp [dj]
  rw [e,a4,b4];have e2:(pst kind bs r i).1.at_=r.at_+((pst kind bs r i).1.at_-r.at_):=by omega
  conv=>lhs;arg 2;rw [show piece bs (pst kind bs r i).1.at_=piece bs (r.at_+((pst kind bs r i).1.at_-r.at_)) by rw [←e2]]
  rw [←db];congr 1;omega
theorem uz {kind:Int} {x:PI} (h:RightI kind x) {bs y:List UInt8} {o:Nat} (e:bs.drop o=d9 kind x++y):ew kind bs ⟨o,true⟩=(x,⟨o+(d9 kind x).length,true⟩):=by
 have hd:=ol h e;have hlen:o+(d9 kind x).length≤bs.length∨bs.length<o:=by have:=congrArg List.length e;rw [aL,aq] at this;omega
 have hpos:1≤(d9 kind x).length:=by unfold d9;simp only [aq,cd];omega
 have hlen:o+(d9 kind x).length≤bs.length:=by rcases hlen with h|h;exact h;have:=congrArg List.length e;rw [aL,aq] at this;omega
 generalize o+(d9 kind x).length=z at*;unfold qZ at hd;unfold ew;simp only at hd⊢;by_cases h1:kind=1
 ·rw [bh h1] at hd⊢;split at hd
  ·rename_i h2;obtain ⟨rfl,rfl⟩:=Prod.mk.inj hd;rw [cW (by omega),gB (by simp only;omega),cW (by simp only;omega),bh h2,gB (by simp only;omega)]
  ·rename_i h2;obtain ⟨rfl,rfl⟩:=Prod.mk.inj hd;rw [cW (by omega),gB (by simp only;omega),cW (by simp only;omega),bg h2,cW (by simp only;omega)]
 rw [bg h1] at hd⊢;obtain ⟨rfl,rfl⟩:=Prod.mk.inj hd;rw [cW (by omega),gB (by simp only;omega),cW (by simp only;omega)]
theorem Ae {kind:Int} {xs:List PI} (h:∀ (i:Nat) (x:PI),xs[i]?=some x→RightI kind x) {bs y:List UInt8} (e:bs.drop 15=dj kind xs++y):
  ∀ i,i≤xs.length→pst kind bs ⟨15,true⟩ i=(⟨15+(dj kind (xs.take i)).length,true⟩,xs.take i):=by
   intro i;induction i with
   |zero=>intro _;rfl
   |succ i ih=>intro hi;have h1:=ih (by omega);have h2:=(nN h e i (by omega)).2;have hx:=ap (l:=xs) (i:=i) (by omega);generalize xs[i]=x at hx;(have hd:xs.drop i=x::xs.drop (i+1):=by rw [List.drop_eq_getElem_cons (by omega)];rw [ap (by omega)] at hx;rw [a8 hx]);(have h3:dj kind (xs.drop i)=d9 kind x++dj kind (xs.drop (i+1)):=by rw [hd];rfl);rw [h3,aQ] at h2;have h4:=uz (h i x hx) h2;(have h6:15+(dj kind (xs.take (i+1))).length=15+(dj kind (xs.take i)).length+(d9 kind x).length:=by rw [mD hx,aq,Nat.add_assoc]);rw [h6,pst,h1];simp only [h4];rw [bm,hx];rfl
theorem sH {p:PP} (h:RightP p) (no gen:Nat) (hn:no<4294967296) (hg:gen<18446744073709551616):
  (dB ((dC no gen p).take 508)).1=p∧dX ((dC no gen p).take 508) (dB ((dC no gen p).take 508)).2=true:=by (have e:(dC no gen p).take 508=ja no gen p++List.replicate (508-(ja no gen p).length) 0:=by unfold dC summed;rw [bG (aS (by rw [cM (h.body no gen)])),av (aS (cM (h.body no gen)))];rfl);have hbl:=h.body no gen;(have hz:∀ m,(List.replicate m (0:UInt8)).all (· ==0)=true:=λm=>by simp);generalize hzs:List.replicate (508-(ja no gen p).length) (0:UInt8)=zs at e;have hz:zs.all (· ==0)=true:=hzs▸hz _;(have hlen:((dC no gen p).take 508).length=508:=by rw [aC,oO h];rfl);generalize (dC no gen p).take 508=bs at*;clear hzs;have hk:=h.kind;have hl:=h.level;(have e0:bs.drop 0=UInt8.ofNat (p.kind.toNat%256)::(UInt8.ofNat (p.level.toNat%256)::(leb 4 no++(leb 8 gen++(fC p++zs)))):=by rw [ax,e];simp [ja,kh]);(have e1:bs.drop 1=UInt8.ofNat (p.level.toNat%256)::(leb 4 no++(leb 8 gen++(fC p++zs))):=by have:=cT (x:=[UInt8.ofNat (p.kind.toNat%256)]) rfl e0;exact this);(have e2:bs.drop 2=leb 4 no++(leb 8 gen++(fC p++zs)):=by have:=cT (x:=[UInt8.ofNat (p.level.toNat%256)]) rfl e1;exact this);have e3:=cT (cd 4 _) e2;have e4:=cT (cd 8 _) e3;(have f0:fld bs 0 1=p.kind.toNat:=by rw [jR e0,UInt8.toNat_ofNat'];omega);(have f1:fld bs 1 1=p.level.toNat:=by rw [jR e1,UInt8.toNat_ofNat'];omega);unfold dB;simp only;rw [cW (by omega),f0,cW (by first|omega|(simp only;omega)),f1,cW (by first|omega|(simp only;omega)),cW (by first|omega|(simp only;omega))];simp only [bP,show 1+1=2 from rfl,show 2+4=6 from rfl,show 6+8=14 from rfl] at*;unfold fC at e4;by_cases h3:p.kind=3;rw [bh (by omega)];rw [bh h3] at e4;obtain ⟨hi,hd1,hd2⟩:=h.blob h3;have hx:=h.next;simp only [aQ] at e4;have e5:=cT (cd 2 _) e4;have e6:=cT (cd 4 _) e5;have e7:=cT rfl e6;rw [cW (by omega),ei 2 p.data.length _ (by simp;omega) e4,cW (by first|omega|(simp only;omega)),ei 4 p.next.toNat _ (by simp;omega) e5,gB (by first|omega|(simp only;omega)),iX rfl e6];obtain ⟨kind,level,items,data,next⟩:=p;simp only at hi h3 hl hx;subst hi h3;refine ⟨?_,?_⟩;simp only [PP.mk.injEq,true_and];omega;unfold dX;simp only;rw [e7,hz];rfl;rw [bg (by omega)];rw [bg h3] at e4;have hi:=h.items;obtain ⟨hd,hx⟩:=h.data h3;simp only [aQ] at e4;have e5:=cT (cd 1 _) e4;rw [cW (by omega),ei 1 p.items.length _ (by simp;omega) e4,show ((p.kind.toNat:Nat):Int)=p.kind by omega];simp only [show 14+1=15 from rfl] at*;rw [Ae h.all e5 _ (am _)];have e6:=(nN h.all e5 _ (am _)).2;rw [List.take_length] at*;rw [List.drop_length] at e6;obtain ⟨kind,level,items,data,next⟩:=p;simp only at hd hl hx e6⊢;subst hd hx;refine ⟨?_,?_⟩;simp only [PP.mk.injEq,true_and,and_true];omega;unfold dX;simp only;rw [e6];simpa [dj] using hz
theorem pm {bs:List UInt8} {o:Nat} (h:o+1≤bs.length):piece bs o 1=[UInt8.ofNat (fld bs o 1%256)]:=by have h1:=eu h;rw [←h1];rfl
theorem ru {l:List UInt8} (h:l.all (· ==0)=true):l=List.replicate l.length 0:=by rw [List.eq_replicate_iff];refine ⟨rfl,λb hb=>?_⟩;have:=List.all_eq_true.1 h b hb;simpa using this
theorem xB {bs:List UInt8} (hl:bs.length=512) (hz:dX (bs.take 508) (dB (bs.take 508)).2=true) (hs:unle (bs.drop 508)=Crc.ofs (bs.take 508)):
  dC (fld bs 2 4) (fld bs 6 8) (dB (bs.take 508)).1=bs:=by
   (have hlen:(bs.take 508).length=508:=by rw [aC];omega);(have hfld:∀ o k,o+k≤508→fld bs o k=fld (bs.take 508) o k:=by intro o k h;unfold fld;rw [List.drop_take,List.take_take,Nat.min_eq_left (by omega)]);rw [hfld 2 4 (by omega),hfld 6 8 (by omega)];have hbs:bs=summed (bs.take 508):=by unfold summed;rw [←hs,pC (by rw [aL];omega),bL]
   have key:fullB (ja (fld (bs.take 508) 2 4) (fld (bs.take 508) 6 8) (dB (bs.take 508)).1)=bs.take 508:=by
    generalize bs.take 508=xs at*;clear hs hl hfld hbs;(have hok:(dB xs).2.ok=true:=by unfold dX at hz;simp at hz;exact hz.2);(have hhead:∀ p:PP,p.kind=(fld xs 0 1:Nat)→p.level=(fld xs 1 1:Nat)→kh (fld xs 2 4) (fld xs 6 8) p=piece xs 0 14:=by intro p h1 h2;unfold kh;rw [h1,h2,Int.toNat_natCast,Int.toNat_natCast,eu (by omega),eu (by omega),show (14:Nat)=1+(1+(4+8)) from rfl,db,db,db,pm (by omega),pm (by omega)];rfl);(have hfull:∀ (b:List UInt8) (o:Nat),o≤508→b=piece xs 0 o→(xs.drop o).all (· ==0)=true→fullB b=xs:=by intro b o ho hb h;subst hb;unfold fullB;rw [dR (by omega)];have h1:=ru h;rw [aL,hlen] at h1;rw [←h1];unfold piece;rw [ax,bL]);unfold dB dX at*;simp only at*;rw [cW (by omega)] at*;simp only at*;rw [cW (by omega)] at*;simp only at*;rw [cW (by omega)] at*;simp only at*;rw [cW (by omega)] at*;simp only [bP,show 1+1=2 from rfl,show 2+4=6 from rfl,show 6+8=14 from rfl] at*;by_cases h3:fld xs 0 1=3;rw [bh h3] at*;rw [cW (by omega)] at*;simp only at*;rw [cW (by omega)] at*;simp only [show 14+2=16 from rfl,show 16+4=20 from rfl] at*;obtain ⟨-,a2,a3⟩:=iA hok;rw [a3] at hz⊢;simp only at a2 hz⊢;refine hfull _ (20+fld xs 14 2) (by omega) ?_ (by simp at hz⊢;exact hz);unfold ja fC;rw [hhead _ (by rw [h3];rfl) rfl];simp only;rw [bh trivial,dR (by omega),eu (by omega),Int.toNat_natCast,eu (by omega),←db,←db];have:=(db (bs:=xs) (o:=0) (m:=14) (n:=2+(4+fld xs 14 2))).symm;rw [bP] at this;rw [this];congr 1;omega
    ·rw [bg h3] at*;rw [cW (by omega)] at*;simp only [show 14+1=15 from rfl] at*;obtain ⟨-,a2,a3,a4⟩:=zw _ hok;simp only at a2 a3 a4;generalize hst:pst (fld xs 0 1:Nat) xs ⟨15,true⟩ (fld xs 14 1)=st at*;(have hsl:st.2.length=fld xs 14 1:=by rw [←hst,iW]);(have ho:st.1.at_≤508:=by rcases a2 with a2|a2;omega;rw [a2] at hst;subst hst;show (15:Nat)≤508;omega);refine hfull _ st.1.at_ ho ?_ (by simp at hz⊢;exact hz.1);unfold ja fC;rw [hhead _ rfl rfl];simp only;rw [bg (by omega),hsl,eu (by omega),a4];have h5:=(db (bs:=xs) (o:=14) (m:=1) (n:=st.1.at_-15)).symm;rw [show 14+1=15 from rfl] at h5;rw [h5];have h6:=(db (bs:=xs) (o:=0) (m:=14) (n:=1+(st.1.at_-15))).symm;rw [bP] at h6;rw [h6];congr 1;omega
   unfold dC;rw [key];exact hbs.symm
def eZ (no:Int) (bs:List UInt8):Int×PP×Nat:=
 if isPg no=false then (15,cz,0) else if bs.length≠512 then (16,cz,0)
 else if unle (bs.drop 508)≠Crc.ofs (bs.take 508) then (6,cz,0)
 else if (fld bs 2 4:Int)≠no then (25,cz,0)
 else if 1099511627776<fld bs 6 8∨dX (bs.take 508) (dB (bs.take 508)).2=false∨dp (dB (bs.take 508)).1≠0 then (5,cz,0) else (0,(dB (bs.take 508)).1,fld bs 6 8)
theorem Al (no:Int) (bs:List UInt8):eZ no bs=pdec no bs:=by
 unfold eZ pdec;split;rfl;split;rfl;rename_i h2;split;rfl;rename_i h3;split;rfl;rename_i h4;have h2:bs.length=512:=by simpa using h2
 have h3:unle (bs.drop 508)=Crc.ofs (bs.take 508):=by simpa using h3
 have h4:(fld bs 2 4:Int)=no:=by simpa using h4
 have hno:no.toNat=fld bs 2 4:=by omega
 have hn:fld bs 2 4<4294967296:=fY bs 2 4;have hg:fld bs 6 8<18446744073709551616:=fY bs 6 8;rw [hno];by_cases hA:1099511627776<fld bs 6 8∨dX (bs.take 508) (dB (bs.take 508)).2=false∨dp (dB (bs.take 508)).1≠0;rw [bh hA];by_cases hB:fld bs 6 8≤1099511627776∧dp (jq bs)=0∧dC (fld bs 2 4) (fld bs 6 8) (jq bs)=bs;exfalso;obtain ⟨b1,b2,b3⟩:=hB;have h5:=sH (gk b2) (fld bs 2 4) (fld bs 6 8) hn hg;rw [b3] at h5;rcases hA with hA|hA|hA;omega;rw [h5.2] at hA;cases hA;rw [h5.1] at hA;exact hA b2;rw [bg hB]
 ·rw [bg hA];have a1:fld bs 6 8≤1099511627776:=by omega
  have a2:dX (bs.take 508) (dB (bs.take 508)).2=true:=by cases h:dX (bs.take 508) (dB (bs.take 508)).2;exact absurd (.inr (.inl h)) hA;rfl
  have a3:dp (dB (bs.take 508)).1=0:=by by_cases h:dp (dB (bs.take 508)).1=0;exact h;exact absurd (.inr (.inr h)) hA
  have h5:=xB h2 a2 h3;have h6:jq bs=(dB (bs.take 508)).1:=by have:=tq (gk a3) (fld bs 2 4) (fld bs 6 8) hn hg;rw [h5] at this;exact this
  rw [h6,bh ⟨a1,a3,h5⟩]
end Go.Proofs.YtchbedbmjiabgaaGreatDoor
