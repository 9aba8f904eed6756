/- TopFormat, part 31 of the proof: TLed TLedW. No condition. -/
import Derived.Test.YtchbedbmjiabgaaGreatDoorZ30
set_option linter.all false
set_option maxHeartbeats 16000000
set_option maxRecDepth 100000
namespace Go.Proofs.YtchbedbmjiabgaaGreatDoor
open Go.RowKit Go.Proofs.Tryz
theorem ri_ok {kind:Int} {x:PI} (h:RightI kind x):i64ok x.child∧i64ok x.size:=by by_cases hs:kind=1∧x.size≤32;have h1:=h.leaf hs.1;have h2:=(h.small hs.1 hs.2).2;exact ⟨⟨by omega,by omega⟩,⟨by omega,by omega⟩⟩;have h1:=h.child hs;by_cases hk:kind=1;have h2:=h.leaf hk;exact ⟨⟨by omega,by omega⟩,⟨by omega,by omega⟩⟩;have h2:=h.zero hk;exact ⟨⟨by omega,by omega⟩,⟨by omega,by omega⟩⟩
theorem mC {p:PP} (h:RightP p):(∀ x∈fw p,1≤x∧x≤65536)∧(p.kind=1→(fw p).length≤8)∧(p.kind=2→(fw p).length=p.items.length∧p.items.length≤8)∧(p.kind=3→(fw p).length≤1):=by
 have hk:=h.kind;have hi:=h.items;have hn:=pF p.kind p.items;have e3:p.kind≠3→fw p=di p.kind p.items:=λg=>by unfold fw;rw [bg (λx=>g x.1),bC]
 refine ⟨λx hx=>?_,λg=>?_,λg=>?_,λg=>?_⟩
 ·unfold fw di at hx;rcases bE.1 hx with hx|hx
  ·obtain ⟨y,hy,hxy⟩:=List.mem_flatMap.1 hx;obtain ⟨i,hiy⟩:=List.mem_iff_getElem?.1 hy;have hr:=h.all i y hiy;unfold jf at hxy;split at hxy
   ·rename_i hc;simp at hxy;subst hxy;refine hr.child λg=>?_;rcases hc with hc|hc;omega;exact hc.2 (hr.small g.1 g.2).2
   cases hxy
  ·split at hx
   ·rename_i hc;simp at hx;subst hx;have:=h.next;omega
   cases hx
 rw [e3 (by omega)];omega
 ·rw [e3 (by omega)];refine ⟨?_,hi⟩
  have:∀ xs:List PI,(di p.kind xs).length=xs.length:=λxs=>by
   induction xs with
   |nil=>rfl
   |cons x xs ih=>have e:di p.kind (x::xs)=jf p.kind x++di p.kind xs:=rfl;rw [e,aq,ih,aG,qo (.inl g)];simp;omega
  exact this _
 unfold fw;rw [(h.blob g).1];show (di p.kind []++_).length≤1;simp only [di,List.flatMap_nil,a7];split<;>simp
theorem pgV_at {lo:Nat} {w:World} {p:PP} {ia:Option Addr} {ic:Nat} {da:Option Addr} {dc:Nat} (h:PgV lo w p ia ic da dc) (hr:RightP p):PgAt w.heap.size w p ia ic da dc:=by
 obtain ⟨⟨zs,hz,hO,hzs, -⟩,hD, -⟩:=h;have hk:=hr.kind;have hl:=hr.level;have hn:=hr.next;have hi8:=hr.items;have hd:p.data.length≤480:=by by_cases h3:p.kind=3;have:=hr.blob h3;omega;rw [(hr.data h3).1];simp
 have hv:∀ {x:PI},RightI p.kind x→x.value.length≤32:=λ{x} h=>by by_cases hs:p.kind=1∧x.size≤32;have:=(h.small hs.1 hs.2).1;omega;rw [h.none hs];simp
 have hmem:∀ z∈zs,RightI p.kind z.1:=λz hzm=>by
  have:z.1∈p.items:=by rw [←hz];exact List.mem_map_of_mem (f:=(·.1)) hzm
  obtain ⟨i,hi⟩:=List.mem_iff_getElem?.1 this;exact hr.all i _ hi
 refine ⟨?_,by omega,?_,hD.sl (by omega) hD.lt,⟨by omega,by omega⟩,⟨by omega,by omega⟩,⟨by omega,by omega⟩⟩
 ·rcases hO.form.2 with ⟨_,_,h0,_⟩|⟨g,e,hg,hnc,hcm,rest,hh,hlen⟩;left;have:=bF.1 h0;rw [←hz,this];rfl
  ·subst e;refine .inr ⟨g,0,rfl,hg,λi x hi=>?_⟩;rw [←hz,aY] at hi;obtain ⟨z,hzi,rfl⟩:=Option.map_eq_some_iff.1 hi;have hm:=aD hzi;(have hc:∀ j u,(dD z)[j]?=some u→w.cell? ⟨g,0+i*4+j,none⟩=some u:=λj u hj=>by obtain ⟨g',e,hcell,_⟩:=hO.cell (cD hzi j u hj);cases e;rw [bP];exact hcell);obtain ⟨ho1,ho2, -⟩:=hzs z hm;have hri:=hmem z hm;have h1:=hri.key;have h2:=hv hri;exact ⟨z.2.ka,z.2.kc,z.2.va,z.2.vc,hc 0 _ rfl,hc 1 _ rfl,hc 2 _ rfl,hc 3 _ rfl,ho1.sl (by omega) ho1.lt,ho2.sl (by omega) ho2.lt,(ri_ok hri).1,(ri_ok hri).2⟩
 intro e;rcases hO.form.2 with ⟨_,h0,_,_⟩|⟨g,e2,_⟩;exact h0;rw [e] at e2;cases e2
def eTr:Elt:={t:=202,e:=72,size:=3,bytes:=24,z:= .agg #[.int .i64 0,.int .i64 0,.int .i64 0],hu:=underlying202,hi:=by kernel_rfl,hz:=rfl,h0:=by decide}
def iR (t:TT):List Value:=[.int .i64 t.root,.int .i64 t.height,.int .i64 t.items]
def gc (ts:List TT):List Value:=ts.flatMap iR
theorem gV:∀ {ts:List TT} {i:Nat} {t:TT},ts[i]?=some t→∀ j u,(iR t)[j]?=some u→(gc ts)[i*3+j]?=some u
 |t::ts,0,_,h,j,u,hu=>by
  cases h
  show (iR t++gc ts)[0*3+j]?=some u
  rw [Nat.zero_mul,bP,aM (ar.1 hu).1]
  exact hu
 |t::ts,i+1,t2,h,j,u,hu=>by
  show (iR t++gc ts)[(i+1)*3+j]?=some u
  have e:(i+1)*3+j=(iR t).length+(i*3+j):=by show _=3+_;omega
  rw [e,aN (Nat.le_add_right _ _),Nat.add_sub_cancel_left]
  exact gV (i:=i) h j u hu
abbrev Cnt:=Int→Nat
def bump (m:Cnt) (k:Int):Cnt:=λj=>if j=k then m k+1 else m j
def ledK:List Int→Cnt×List Int→Cnt×List Int
 |[],s=>s
 |k::ks,s=>ledK ks (bump s.1 k,if s.1 k=0 then s.2++[k] else s.2)
theorem lT:∀ (ks:List Int) (s:Cnt×List Int) (k:Int),ledK (ks++[k]) s=(bump (ledK ks s).1 k,if (ledK ks s).1 k=0 then (ledK ks s).2++[k] else (ledK ks s).2)
 |[],s,k=>rfl
 |a::ks,s,k=>lT ks _ k
theorem x7 {ks:List Int} {i:Nat} {k:Int} (h:ks[i]?=some k) (s:Cnt×List Int):ledK (ks.take (i+1)) s=(bump (ledK (ks.take i) s).1 k,if (ledK (ks.take i) s).1 k=0 then (ledK (ks.take i) s).2++[k] else (ledK (ks.take i) s).2):=by rw [bm,h];exact lT _ _ _
def ir (m:Cnt):Met:=λk=>decide (m k≠0)
def cntV (m:Cnt):Int→Option Value:=λk=>if m k=0 then none else some (.int .i64 (m k:Int))
theorem AS (m:Cnt) (k:Int):(cntV m k).getD (.int .i64 0)= .int .i64 (m k:Int):=by unfold cntV;by_cases h:m k=0;rw [bh h,h];rfl;rw [bg h];rfl
theorem yI (m:Cnt) (k:Int):upd (cntV m) k (some (.int .i64 ((m k:Int)+1)))=cntV (bump m k):=by funext j;unfold upd cntV bump;by_cases h:j=k;subst h;simp;simp [h]
theorem ug (m:Cnt) (k:Int):ir (bump m k)=if m k=0 then dG (ir m) k else ir m:=by funext j;unfold ir bump;by_cases h:m k=0;rw [bh h];unfold dG;by_cases h2:j=k;simp [h2];simp [h2];rw [bg h];by_cases h2:j=k;subst h2;simp [h];simp [h2]
def ledM (s:Cnt×List Int):Nat:=iw (ir s.1)+s.2.length
theorem xZ {s:Cnt×List Int} {k:Int} (h:1≤k∧k≤65536):ledM (bump s.1 k,if s.1 k=0 then s.2++[k] else s.2)≤ledM s:=by unfold ledM;simp only [ug];by_cases h0:s.1 k=0;rw [bh h0,bh h0];have:=nZ (m:=ir s.1) (n:=k) (by simp [ir,h0]) (by omega) h.2;rw [aq];simp only [aG,aR];omega;rw [bg h0,bg h0];exact am _
theorem mT:∀ {ks:List Int} {s:Cnt×List Int},(∀ k∈ks,1≤k∧k≤65536)→ledM (ledK ks s)≤ledM s
 |[],s,_=>am _
 |k::ks,s,h=>ao (mT (ks:=ks) (λx hx=>h x (bS _ hx))) (xZ (h k (List.mem_cons_self ..)))
structure LedOk (rd:Rdr) (B:Nat) (s:Cnt×List Int):Prop where
 few:∀ k,s.1 k≤B
 nums:∀ k∈s.2,1≤k∧k≤65536
 keys:∀ k,s.1 k≠0→k∈s.2∨rd k≠none
theorem LedOk.bumpS {rd:Rdr} {B:Nat} {s:Cnt×List Int} {k:Int} (h:LedOk rd B s) (hk:1≤k∧k≤65536):LedOk rd (B+1) (bump s.1 k,if s.1 k=0 then s.2++[k] else s.2):=by refine ⟨λj=>?_,λj hj=>?_,λj hj=>?_⟩;show bump s.1 k j≤B+1;unfold bump;have:=h.few j;have:=h.few k;split<;>omega;simp only at hj;split at hj;rcases bE.1 hj with hj|hj;exact h.nums j hj;rw [bH] at hj;subst hj;exact hk;exact h.nums j hj;have hj':bump s.1 k j≠0:=hj;unfold bump at hj';simp only;by_cases e:j=k;subst e;by_cases h0:s.1 j=0;rw [bh h0];exact .inl (by simp);rw [bg h0];exact h.keys j h0;rw [bg e] at hj';rcases h.keys j hj' with h1|h1;left;split;exact List.mem_append_left _ h1;exact h1;exact .inr h1
theorem LedOk.many {rd:Rdr}:∀ {ks:List Int} {B:Nat} {s:Cnt×List Int},LedOk rd B s→(∀ k∈ks,1≤k∧k≤65536)→LedOk rd (B+ks.length) (ledK ks s)
 |[],B,s,h,_=>h
 |k::ks,B,s,h,hk=>by have:=LedOk.many (h.bumpS (hk k (List.mem_cons_self ..))) (λx hx=>hk x (bS _ hx));rw [aG,show B+(ks.length+1)=B+1+ks.length by omega];exact this
inductive Led (rd:Rdr):Cnt×List Int→Option Cnt→Prop
 |done (m:Cnt) (s:Cnt×List Int) (h:s=(m,[])):Led rd s (some m)
 |fail (m:Cnt) (t:List Int) (n:Int) (s:Cnt×List Int) (h:s=(m,t++[n])) (hr:rd n=none):Led rd s none
 |step (m:Cnt) (t:List Int) (n:Int) (p:PP) (s:Cnt×List Int) (r:Option Cnt) (h:s=(m,t++[n])) (hr:rd n=some p) (hs:Led rd (ledK (fw p) (m,t)) r):Led rd s r
theorem ny {t t2:List Int} {n n2:Int} (h:t++[n]=t2++[n2]):t=t2∧n=n2:=by have:=List.append_inj' h rfl;exact ⟨this.1,by injection this.2⟩
theorem Led.one {rd:Rdr} {s:Cnt×List Int} {r r2:Option Cnt} (h:Led rd s r) (k:Led rd s r2):r=r2:=by
 induction h with
 |done m s h=>
  cases k with
  |done m2 _ h2=>rw [h] at h2;injection h2 with a b;rw [a]
  |fail m2 t n _ h2 hr=>rw [h] at h2;injection h2 with a b;exact absurd (congrArg List.length b) (by simp)
  |step m2 t n p _ _ h2 hr hs=>rw [h] at h2;injection h2 with a b;exact absurd (congrArg List.length b) (by simp)
 |fail m t n s h hr=>
  cases k with
  |done m2 _ h2=>rw [h] at h2;injection h2 with a b;exact absurd (congrArg List.length b) (by simp)
  |fail=>rfl
  |step m2 t2 n2 p _ _ h2 hr2 hs=>rw [h] at h2;injection h2 with a b;obtain ⟨-,rfl⟩:=ny b;rw [hr] at hr2;cases hr2
 |step m t n p s r h hr hs ih=>
  cases k with
  |done m2 _ h2=>rw [h] at h2;injection h2 with a b;exact absurd (congrArg List.length b) (by simp)
  |fail m2 t2 n2 _ h2 hr2=>rw [h] at h2;injection h2 with a b;obtain ⟨-,rfl⟩:=ny b;rw [hr] at hr2;cases hr2
  |step m2 t2 n2 p2 _ _ h2 hr2 hs2=>rw [h] at h2;injection h2 with a b;obtain ⟨rfl,rfl⟩:=ny b;rw [hr] at hr2;cases hr2;subst a;exact ih hs2
def gZ (ts:List TT):List Int:=(ts.map (·.root)).filter (λr=>decide (r≠0))
def led0 (ts:List TT):Cnt×List Int:=ledK (gZ ts) (λ_=>0,[])
theorem sB {ts:List TT} {j:Nat} {t:TT} (h:ts[j]?=some t) (h0:t.root=0):gZ (ts.take (j+1))=gZ (ts.take j):=by unfold gZ;rw [bm,h,aW,List.filter_append];simp [h0]
theorem sC {ts:List TT} {j:Nat} {t:TT} (h:ts[j]?=some t) (h0:t.root≠0):gZ (ts.take (j+1))=gZ (ts.take j)++[t.root]:=by unfold gZ;rw [bm,h,aW,List.filter_append];simp [h0]
theorem x8 {ts:List TT} {j:Nat} {t:TT} (h:ts[j]?=some t) (h0:t.root=0):led0 (ts.take (j+1))=led0 (ts.take j):=by unfold led0;rw [sB h h0]
theorem x9 {ts:List TT} {j:Nat} {t:TT} (h:ts[j]?=some t) (h0:t.root≠0):led0 (ts.take (j+1))=(bump (led0 (ts.take j)).1 t.root,if (led0 (ts.take j)).1 t.root=0 then (led0 (ts.take j)).2++[t.root] else (led0 (ts.take j)).2):=by unfold led0;rw [sC h h0,lT]
theorem qm {rd:Rdr} {ts:List TT} (h:∀ t∈ts,t.root=0∨1≤t.root∧t.root≤65536) (hn:ts.length≤1000):LedOk rd 1000 (led0 ts)∧ledM (led0 ts)≤65537:=by
 have hk:∀ k∈gZ ts,1≤k∧k≤65536:=λk hk=>by
  obtain ⟨h1,h2⟩:=List.mem_filter.1 hk;obtain ⟨t,ht,rfl⟩:=bV.1 h1;have h3:t.root≠0:=by simpa using h2
  rcases h t ht with h4|h4;exact absurd h4 h3;exact h4
 have h0:LedOk rd 0 ((λ_=>0,[]):Cnt×List Int):=⟨λ_=>am _,λk hk=>(by cases hk),λk hk=>absurd rfl hk⟩;have h1:=h0.many hk;have hl:(gZ ts).length≤ts.length:=by unfold gZ;refine ao (List.length_filter_le _ _) ?_;rw [aB];exact am _
 refine ⟨⟨λk=>ao (h1.few k) (by omega),h1.nums,h1.keys⟩,ao (mT hk) ?_⟩;have e:(ir λ_=>0)=λ_=>false:=by funext k;simp [ir]
 have e2:=nY;unfold ledM;simp only [aR,Nat.add_zero];rw [e];generalize iw (λ_=>false)=z at e2⊢;omega
section
variable {w:World} {ops:Array Oper} {rest:List Oper} {o:Oper} {a:Act} {Q:Exit→Act→World→Prop} {b n:Nat} {c:Cnt}
theorem dQ (hg:o.guard=none) (m x:Operand) (hop:o.op=Op.lookup 260 m x false) (hm:a.eval m= .map (some b)) (h:MpI w b n (cntV c)) (k:Int) (hx:a.eval x= .int .i64 k) (hk:(Lit.int .i64 k).wf=true) (q:Int) (hq:(c k:Int)=q)
  (hK:wpList prog ops Q rest (a.put o.dst (.int .i64 q)) w):wpList prog ops Q (o::rest) a w:=by refine gT hg m x 260 3 false hop underlying260 (zInt _) hm h k hx hk ?_;rw [bg (by decide),AS,hq];exact hK
theorem gj (hg:o.guard=none) (m x v:Operand) (hop:o.op=Op.mapUpdate 260 m x v) (hm:a.eval m= .map (some b)) (h:MpI w b n (cntV c)) (hn:n<maxLen) (k:Int) (hx:a.eval x= .int .i64 k) (hk:(Lit.int .i64 k).wf=true) (q:Int) (hv:a.eval v= .int .i64 q) (hq:(c k:Int)+1=q)
  (hK:∀ w',MpI w' b (n+1) (cntV (bump c k))→Chg (λj=>j=b) w w'→wpList prog ops Q rest (a.put o.dst undef) w'):wpList prog ops Q (o::rest) a w:=by refine gS hg m x v 260 3 hop underlying260 hm h hn k hx hk _ hv λw' h1 h2=>?_;rw [←hq,yI] at h1;exact hK w' h1 h2
end
theorem jS (c:Cnt) (k:Int):bump c k k=c k+1:=bh rfl
structure ni (w0:World) (mb:Nat) (s:Cnt×List Int) (N:Nat) (tv:Value) (wr:World):Prop where
 todo:∃ ta tc,tv= .slice ta s.2.length tc∧OR eN wr ta tc s.2.length (cj s.2)∧∀ k,blk ta=some k→w0.heap.size≤k∧k≠mb
 map:MpI wr mb N (cntV s.1)
 bel:Below w0.heap.size w0 wr
theorem pA {w0 w3:World} {mb N sl:Nat} {s:Cnt×List Int} {k:Int} {ta:Option Addr} {tc:Nat} (hsl:s.2.length=sl) (hO:OR eN w3 ta tc sl (cj s.2)) (hT:∀ j,blk ta=some j→w0.heap.size≤j∧j≠mb) (hM:MpI w3 mb N (cntV (bump s.1 k))) (hB:Below w0.heap.size w0 w3) (h0:s.1 k≠0):
  ni w0 mb (bump s.1 k,if s.1 k=0 then s.2++[k] else s.2) N (.slice ta sl tc) w3:=by subst hsl;rw [bg h0];exact ⟨⟨ta,tc,rfl,hO,hT⟩,hM,hB⟩
theorem pB {w0 w3:World} {mb N sl:Nat} {s:Cnt×List Int} {k:Int} {ta:Option Addr} {tc:Nat} (hsl:s.2.length=sl) (hO:OR eN w3 ta tc (sl+1) (cj s.2++[.int .i64 k])) (hT:∀ j,blk ta=some j→w0.heap.size≤j∧j≠mb) (hM:MpI w3 mb N (cntV (bump s.1 k))) (hB:Below w0.heap.size w0 w3) (h0:s.1 k=0):
  ni w0 mb (bump s.1 k,if s.1 k=0 then s.2++[k] else s.2) N (.slice ta (sl+1) tc) w3:=by subst hsl;rw [bh h0];exact ⟨⟨ta,tc,by simp,by simpa [cj] using hO,hT⟩,hM,hB⟩
def vX (w0:World) (mb:Nat) (ts:List TT) (tv iv:Value) (wr:World):Prop:=
 ∃ j N,j≤ts.length∧N≤j∧iv= .int .i64 j∧ni w0 mb (led0 (ts.take j)) N tv wr
def vW (rd:Rdr) (w0:World) (mb:Nat) (ts:List TT) (q:Nat) (tv:Value) (wr:World):Prop:=
 ∃ s N B,ni w0 mb s N tv wr∧q=ledM s∧LedOk rd B s∧B+9*q≤1000000∧N+9*q≤1000000∧∀ r,Led rd s r→Led rd (led0 ts) r
def LedP (rd:Rdr) (ts:List TT) (w:World) (e:Ending) (w':World):Prop:=
 Below w.heap.size w w'∧∃ r,Led rd (led0 ts) r∧match r with
  |none=>∃ er:Int,er≠0∧e= .returned (.tuple #[.map none,.int .i64 er])
  |some m=>∃ b N,e= .returned (.tuple #[.map (some b),.int .i64 0])∧MpI w' b N (cntV m)∧w.heap.size≤b∧(∀ k,m k≠0→rd k≠none)∧∀ k,m k≤1000000
def y8 (w0:World) (mb:Nat) (ks:List Int) (ka:Option Addr) (kc:Nat) (N0:Nat) (s:Cnt×List Int) (tv iv:Value) (wr:World):Prop:=
 ∃ i N,i≤ks.length∧N≤N0+i∧iv= .int .i64 i∧ni w0 mb (ledK (ks.take i) s) N tv wr∧ON wr ka kc ks∧∀ ta sl tc,tv= .slice ta sl tc→∀ x,blk ta=some x→blk ka≠some x
theorem LedOk.pop {rd:Rdr} {B:Nat} {m:Cnt} {s:List Int} {n:Int} {p:PP} (h:LedOk rd B (m,s++[n])) (hr:rd n=some p):LedOk rd B (m,s):=
 ⟨h.few,λk hk=>h.nums k (List.mem_append_left _ hk),λk hk=>by
   rcases h.keys k hk with h1|h1
   · rcases bE.1 h1 with h2|h2
     · exact .inl h2
     · rw [bH] at h2;subst h2;rw [hr];exact .inr (by simp)
   · exact .inr h1⟩
theorem uP {p:PP} (h:RightP p):(fw p).length≤8:=by obtain ⟨-,h1,h2,h3⟩:=mC h;have hk:=h.kind;by_cases e1:p.kind=1;exact h1 e1;by_cases e2:p.kind=2;have:=h2 e2;omega;have:=h3 (by omega);omega
theorem xY {rd:Rdr} {ts:List TT} {w w1:World} {b N B:Nat} {m:Cnt} (hb:w.heap.size≤b) (hMp:MpI w1 b N (cntV m)) (hB:Below w.heap.size w w1) (hok:LedOk rd B (m,[])) (hB9:B≤1000000) (hled:∀ r,Led rd (m,[]) r→Led rd (led0 ts) r):
  LedP rd ts w (.returned (.tuple #[.map (some b),.int .i64 0])) w1:=
 ⟨hB,some m,hled _ (.done m _ rfl),b,N,rfl,hMp,hb,λk hk=>(hok.keys k hk).resolve_left (by simp),λk=>ao (hok.few k) hB9⟩
theorem xX {rd:Rdr} {ts:List TT} {w w1:World} {er n:Int} {m:Cnt} {s:List Int} (hB:Below w.heap.size w w1) (he:er≠0) (hr:rd n=none) (hled:∀ r,Led rd (m,s++[n]) r→Led rd (led0 ts) r):
  LedP rd ts w (.returned (.tuple #[.map none,.int .i64 er])) w1:=
 ⟨hB,none,hled _ (.fail m s n _ rfl hr),er,he,rfl⟩
theorem led_any (ts:List TT) {v lo:Nat} {rd:Rdr} {w:World} {toa:Option Addr} {toc:Nat} (hrt:∀ n p,rd n=some p→RightP p) (hv:IsVR lo w v rd) (hO:OR eTr w toa toc ts.length (gc ts)) (hn:ts.length≤1000) (hr:∀ t∈ts,t.root=0∨1≤t.root∧t.root≤65536):
  Calls prog 126 #[.pointer (some ⟨v,0,none⟩),.slice toa ts.length toc] w (LedP rd ts w):=by
   have HV:=Hd hv;have B1:=Hd hrt;have HO:=Hd hO;have HR:=Hd hr;have hmm:=@run_makeMap prog;have HM0:=Hd (MpI.made w);have BI:=Hd (bY w (.map #[] 0));obtain ⟨n,hl⟩:∃ n,ts.length=n:=⟨_,rfl⟩;have HL:=Hd hl;rw [hl] at HO hn⊢;clear hv hrt hO hr hl;go_enter func126,ntmps126;go_wp2_with fail;generalize w.alloc (.map #[] 0)=W0 at*;clear hmm;have GI:=Hd (show w.heap.size<W0.heap.size from HM0.out.lt);go_loopw [7,18] (λtv iv wr=>vX w w.heap.size ts tv iv wr) (λ_ iv _=>n-(intOf iv).toNat);case atStart=>exact ⟨0,0,aV _,am _,rfl,⟨none,0,rfl,ak _ _,λk e=>by cases e⟩,HM0.out,BI.out⟩
   case round=>
    obtain ⟨wo,hwo⟩:∃ wo,wo=wr:=⟨_,rfl⟩;subst hwo;obtain ⟨j,N,hj,hNj,rfl,⟨ta,tc,rfl,hT,hTl⟩,hMp,hB⟩:=hrel;rw [HL.out] at hj;by_cases hjn:j<n
    ·obtain ⟨t,ht⟩:∃ t,ts[j]?=some t:=⟨_,ap (by rw [HL.out];exact hjn)⟩;have hO2:=HO.out.chg (F:=λ_=>False) (ac hB) (λ_ _ f=>f);obtain ⟨g,rfl,d0, -⟩:=hO2.cell (gV ht 0 _ rfl);obtain ⟨g1,e1,d1, -⟩:=hO2.cell (gV ht 1 _ rfl);obtain ⟨g2,e2,d2, -⟩:=hO2.cell (gV ht 2 _ rfl);cases e1;cases e2;have hrj:=HR.out t (aD ht);have HJ:=Hd hjn;have GX:=Hd hNj;have HSK:=Hd λ(h0:t.root=0)=>x8 ht h0;have C8:=Hd λ(h0:t.root≠0)=>x9 ht h0;obtain ⟨s,hs⟩:∃ s,led0 (ts.take j)=s:=⟨_,rfl⟩;rw [hs] at HSK C8 hT hMp;rw [hs];have D8:=Hd (show s.2.length≤1000+65537 from by have h:=(qm (rd:=rd) (ts:=ts.take j) (λx hx=>HR.out x (List.mem_of_mem_take hx)) (by rw [aC];omega)).2;rw [hs] at h;have h2:s.2.length≤ledM s:=Nat.le_add_left _ _;omega);have HFW:=Hd (show ∀ k,s.1 k≤1000 from by have h:=(qm (rd:=rd) (ts:=ts.take j) (λx hx=>HR.out x (List.mem_of_mem_take hx)) (by rw [aC];omega)).1;rw [hs] at h;exact h.few);obtain ⟨root,height,items⟩:=t;simp only [iR,Nat.add_zero] at d0 d1 d2 hrj HSK C8;have hb1:=bY wo (.cells #[.int .i64 root,.int .i64 height,.int .i64 items] 72);have hr1:=az wo (.cells #[.int .i64 root,.int .i64 height,.int .i64 items] 72);have HT1:=Hd (hT.chg (F:=λ_=>False) (ac hb1) (λ_ _ f=>f));have EZ:=Hd (hMp.chg (F:=λ_=>False) (ac hb1) (λf=>f));have Bh:=Hd (hB.trans (hb1.mono hB.size));have Dk:=Hd hTl;have HWO:=Hd (show w.heap.size≤wo.heap.size from hB.size);have HMW:=Hd hMp.lt;have HTW:=Hd hT.lt;clear ht hO2 hT hMp hb1 hs hTl hB hNj;obtain ⟨sl,hsl⟩:∃ sl,s.2.length=sl:=⟨_,rfl⟩;have GS:=Hd hsl;rw [hsl] at HT1 D8⊢;clear hsl;by_cases hz:root=0
     ·subst hz;obtain ⟨b0,b1,b2, -⟩:=cY hr1;have HREL:=Hd (show vX w w.heap.size ts (.slice ta sl tc) (.int .i64 ((j:Int)+1)) (wo.alloc (.cells #[.int .i64 0,.int .i64 height,.int .i64 items] 72)) from by refine ⟨j+1,N,by rw [HL.out];exact HJ.out,Nat.le_succ_of_le GX.out,rfl,?_⟩;rw [HSK.out rfl];exact ⟨⟨ta,tc,by rw [GS.out],by rw [GS.out];exact HT1.out,Dk.out⟩,EZ.out,Bh.out⟩);go_wp2_with fail;go_roundw;(case rel=>exact HREL.out);case measure=>exact cw HJ.out
     ·(have hzb:(root==0)=false:=by rw [br];exact hz);have hrw:(Lit.int .i64 root).wf=true:=iy (hrj.resolve_left hz);obtain ⟨b0,b1,b2, -⟩:=cY hr1;obtain ⟨q,hq⟩:∃ q,s.1 root=q:=⟨_,rfl⟩;by_cases h0:q=0;(focus subst h0;(have hq0:((s.1 root:Nat):Int)=0:=by rw [hq];rfl);(have hq1:((s.1 root:Nat):Int)+1=1:=by rw [hq];rfl);(have hq2:((bump s.1 root root:Nat):Int)=1:=by rw [jS,hq];rfl);have HQ:=Hd hq;clear hq hrj;go_wp2_with (first|(at_lookup;refine dQ rfl (.tmp 25) (.tmp 27) rfl rfl EZ.out root rfl hrw 0 hq0 ?_)|(at_lookup;refine dQ rfl (.tmp 30) (.tmp 32) rfl rfl CS.out root rfl hrw 1 hq2 ?_)|(refine gj rfl (.tmp 25) (.tmp 27) (.tmp 29) rfl rfl EZ.out (by have:=GX.out;unfold maxLen;omega) root rfl hrw 1 rfl hq1 ?_;intro w2 hm hc;have CS:=Hd hm;have Bx:=Hd hc;have hr2:=(hc.block _ (rltT hr1) (λe=>by have:=HMW.out;omega)).trans hr1;obtain ⟨t0,t1,t2, -⟩:=cY hr2;have Cp:=Hd (HT1.out.chg hc (λk e f=>(Dk.out k e).2 f));have hb3:=bY w2 (.cells #[.int .i64 root] 3);have BR:=Hd (fv w2 (.int .i64 root) 3);have CP:=Hd (Cp.out.chg (F:=λ_=>False) (ac hb3) (λ_ _ f=>f));have EI:=Hd (CS.out.chg (F:=λ_=>False) (ac hb3) (λf=>f));have Bd:=Hd (Bh.out.trans (hc.below Bh.out.size (λk e=>by omega)));have Bi:=Hd (Bd.out.trans (hb3.mono Bd.out.size));clear hm hc hb3 hr2)|(at_builtin;go_must (refine cg eN rfl (.tmp 35) (.tmp 38) rfl rfl CP.out rfl (m:=1) (news:=[.int .i64 root]) rfl (.inr ⟨_,rfl,BR.out⟩) (by simp [Value.oneCell']) (by have:=D8.out;show (sl+1)*8≤_;omega) (by have:=D8.out;omega) ?_);intro ta4 tc4 w4 hO4 hC4 hb4 _;have BH:=Hd hO4;have Bz:=Hd hC4;have Be:=Hd hb4;clear hO4 hC4 hb4));have HREL:=Hd (show vX w w.heap.size ts (.slice ta4 (sl+1) tc4) (.int .i64 ((j:Int)+1)) w4 from by refine ⟨j+1,N+1,by rw [HL.out];exact HJ.out,Nat.succ_le_succ GX.out,rfl,?_⟩;rw [C8.out hz];have hmb:∀ k,blk ta=some k→k≠w.heap.size:=λk e=>(Dk.out k e).2;refine pB GS.out BH.out (λk e=>?_) (EI.out.chg Bz.out (λe=>hmb _ e rfl)) (Bi.out.trans (Bz.out.below Bi.out.size (λk e=>(Dk.out k e).1))) HQ.out;rcases Be.out with h|h;exact Dk.out k (h▸e);rw [h] at e;cases e;have:=Bi.out.size;have:=EI.out.lt;omega));rotate_left;(focus have hq9:q≤1000:=hq▸HFW.out root;(have hq0:((s.1 root:Nat):Int)=(q:Int):=by rw [hq]);(have hq1:((s.1 root:Nat):Int)+1=(q:Int)+1:=by rw [hq]);(have hq2:((bump s.1 root root:Nat):Int)=(q:Int)+1:=by rw [jS,hq];omega);(have hw1:IntKind.i64.wrap ((q:Int)+1)=(q:Int)+1:=by rw [IntKind.wrap_i64];omega);(have hqd:((q:Int)+1==1)=false:=by rw [br];omega);have HQ:=Hd (show s.1 root≠0 by rw [hq];exact h0);clear hq hrj;go_wp2_with (first|(at_lookup;refine dQ rfl (.tmp 25) (.tmp 27) rfl rfl EZ.out root rfl hrw (q:Int) hq0 ?_)|(at_lookup;refine dQ rfl (.tmp 30) (.tmp 32) rfl rfl CS.out root rfl hrw ((q:Int)+1) hq2 ?_)|(refine gj rfl (.tmp 25) (.tmp 27) (.tmp 29) rfl rfl EZ.out (by have:=GX.out;unfold maxLen;omega) root rfl hrw ((q:Int)+1) rfl hq1 ?_;intro w2 hm hc;have CS:=Hd hm;have Bx:=Hd hc;have hr2:=(hc.block _ (rltT hr1) (λe=>by have:=HMW.out;omega)).trans hr1;obtain ⟨t0,t1,t2, -⟩:=cY hr2;have Cp:=Hd (HT1.out.chg hc (λk e f=>(Dk.out k e).2 f));have hb3:=bY w2 (.cells #[.int .i64 root] 3);have BR:=Hd (fv w2 (.int .i64 root) 3);have CP:=Hd (Cp.out.chg (F:=λ_=>False) (ac hb3) (λ_ _ f=>f));have EI:=Hd (CS.out.chg (F:=λ_=>False) (ac hb3) (λf=>f));have Bd:=Hd (Bh.out.trans (hc.below Bh.out.size (λk e=>by omega)));have Bi:=Hd (Bd.out.trans (hb3.mono Bd.out.size));clear hm hc hb3 hr2));have HREL:=Hd (show vX w w.heap.size ts (.slice ta sl tc) (.int .i64 ((j:Int)+1)) w2 from by refine ⟨j+1,N+1,by rw [HL.out];exact HJ.out,Nat.succ_le_succ GX.out,rfl,?_⟩;rw [C8.out hz];exact pA GS.out Cp.out Dk.out CS.out Bd.out HQ.out));all_goals go_wp2_with fail;go_roundw;(case rel=>exact HREL.out);case measure=>exact cw HJ.out
    ·(obtain rfl:j=n:=by omega);(have e0:led0 (ts.take j)=led0 ts:=by rw [av (aS HL.out)]);rw [e0] at hT hMp⊢;have C7:=Hd (qm (rd:=rd) HR.out (by rw [HL.out];exact hn));have Cv:=Hd (show ni w w.heap.size (led0 ts) N (.slice ta (led0 ts).2.length tc) wo from ⟨⟨ta,tc,rfl,hT,hTl⟩,hMp,hB⟩);have GX:=Hd hNj;generalize (led0 ts).2.length=sl at*;clear hT hTl hMp hB e0 hNj hj hjn HM0 BI;go_wp2_with fail;go_loopw [7] (λtv wr=>∃ q,vW rd w w.heap.size ts q tv wr) (λtv wr=>leastQ λq=>vW rd w w.heap.size ts q tv wr);case atStart=>exact ⟨_,_,N,1000,Cv.out,rfl,C7.out.1,by have:=C7.out.2;omega,by have:=C7.out.2;have:=GX.out;omega,λ_ h=>h⟩
     case round=>
      clear Cv C7;obtain ⟨w1,hw1⟩:∃ w1,w1=wr:=⟨_,rfl⟩;subst hw1;obtain ⟨q,hq⟩:∃ q,leastQ (λq=>vW rd w w.heap.size ts q u7 w1)=q:=⟨_,rfl⟩;have hsp:=jB hrel;rw [hq] at hsp;have HQ:=Hd hq;clear hrel hq;obtain ⟨⟨m,todo⟩,N,B,⟨⟨ta,tc,rfl,hT,hTl⟩,hMp,hB⟩,hqm,hok,hB9,hN9,hled⟩:=hsp;obtain ⟨m0,hm0⟩:∃ m0,todo.length=m0:=⟨_,rfl⟩;simp only [hm0] at hT HQ⊢;cases m0 with
      |zero=>obtain rfl:=bF.1 hm0;have HE:=Hd (xY (ts:=ts) (am _) hMp hB hok (by omega) hled);clear hT hTl hMp hB hqm hok hB9 hN9 hled HQ hm0;go_wp2_with fail;go_ret2;exact HE.out
      |succ k=>
       obtain ⟨s,n,rfl⟩:∃ s n,todo=s++[n]:=⟨_,_,(List.dropLast_concat_getLast (by intro h;simp [h] at hm0)).symm⟩;(have hsl:s.length=k:=by simpa using hm0);(have hnum:cj (s++[n])=cj s++[.int .i64 n]:=by simp [cj]);simp only [hnum] at hT;(have hnl:(cj s).length=k:=by simp [cj,hsl]);obtain ⟨tb,rfl,e1, -⟩:=hT.cell (j:=k) (u:= .int .i64 n) (by rw [aN (by omega),hnl,Nat.sub_self];rfl);have htk:=hT.take1 rfl;(have hcap:k+1≤tc:=by rcases hT.form.2 with ⟨h, -⟩|⟨g, -, -,h, -⟩;cases h;exact h);(have hk0:k≤tc:=by omega);(have hqk:k<q:=by rw [hqm];unfold ledM;simp only [aq,hsl,aG,aR];omega);have hnw:(Lit.int .i64 n).wf=true:=iy (hok.nums n (by simp));(have hw:IntKind.i64.wrap ((k:Int)+1-1)=(k:Int):=by rw [IntKind.wrap_i64];omega);(have hw0:IntKind.i64.wrap (k:Int)=(k:Int):=by rw [IntKind.wrap_i64];omega);have hw00:wrap64 (k:Int)=(k:Int):=IntWalk.wrap64_in _ (by omega);obtain ⟨cs,rd0,hVV,hrdr⟩:=HV.out.below hB;have Cg:=Hd (iE n hnw hVV);rw [←hrdr] at Cg;have Dl:=Hd htk;have Dk:=Hd (hTl tb rfl);have HM:=Hd hMp;have HB:=Hd hB;have HQM:=Hd hqm;have C7:=Hd hok;have Cd:=Hd hB9;have Gf:=Hd hN9;have HLE:=Hd hled;have D8:=Hd hsl;clear hT hTl hMp hB hqm hok hB9 hN9 hled hnum hnl htk hVV hrdr hm0 hsl;cases hrn:rd n with
       |none=>rw [hrn] at Cg;have Ga:=Hd hrn;clear hrn;go_wp2_with fail;refine Cg.out.mono ?_;rintro _ w2 ⟨ia,ic,da,dc,rfl,hpg,hsm,hb2⟩;have Bd:=Hd (HB.out.trans (hb2.mono HB.out.size));clear hpg hsm hb2;simp only [Option.getD_none,Option.isSome_none,cz,aR];unfold pgv;go_wp2_with (first|(refine b9 rfl rfl ?_;intro w5 hR hA;have Bk:=Hd hR;have Bl:=Hd hA;clear hR hA)|(refine ce rfl (.tmp 11) (.tmp 54) rfl w2.heap.size rfl _ _ _ _ _ (.int .i64 0) (.int .i64 0) (.slice ia 0 ic) (.slice da 0 dc) (.int .i64 0) rfl Bk.out ⟨rfl,rfl,rfl,rfl,rfl⟩ ?_;intro w6 hR hC;have Bg:=Hd (Bd.out.trans ((aa Bl.out hC).mono Bd.out.size));clear hR hC));go_ret2;exact xX Bg.out (by decide) Ga.out HLE.out
       |some p=>
        rw [hrn] at Cg;have Ga:=Hd hrn;have Cx:=Hd (B1.out n p hrn);obtain ⟨pk,hpk⟩:∃ x,p.kind=x:=⟨_,rfl⟩;obtain ⟨pl,hpl⟩:∃ x,p.level=x:=⟨_,rfl⟩;obtain ⟨il,hil⟩:∃ x,p.items.length=x:=⟨_,rfl⟩;obtain ⟨dl,hdl⟩:∃ x,p.data.length=x:=⟨_,rfl⟩;obtain ⟨px,hpx⟩:∃ x,p.next=x:=⟨_,rfl⟩;have DG:=Hd (show p.kind=pk∧p.level=pl∧p.items.length=il∧p.data.length=dl∧p.next=px from ⟨hpk,hpl,hil,hdl,hpx⟩);clear hrn;go_wp2_with fail;refine Cg.out.mono ?_;rintro _ w2 ⟨ia,ic,da,dc,rfl,hpg,hsm,hb2⟩;simp only [bA,Option.isSome_some,if_true] at hpg⊢;unfold pgv;rw [hpk,hpl,hil,hdl,hpx];clear hpk hpl hil hdl hpx;have Bd:=Hd (HB.out.trans (hb2.mono HB.out.size));have BK:=Hd hb2;have BN:=Hd hpg;clear hpg hsm hb2;go_wp2_with (first|(refine b9 rfl rfl ?_;intro w5 hR hA;have Bk:=Hd hR;have Bl:=Hd hA;clear hR hA)|(refine ce rfl (.tmp 11) (.tmp 54) rfl w2.heap.size rfl _ _ _ _ _ (.int .i64 pk) (.int .i64 pl) (.slice ia il ic) (.slice da dl dc) (.int .i64 px) rfl Bk.out ⟨rfl,rfl,rfl,rfl,rfl⟩ ?_;intro w6 hR hC;have ET:=Hd (aa Bl.out hC);have FH:=Hd (BK.out.trans (ET.out.mono BK.out.size));have Bg:=Hd (HB.out.trans (FH.out.mono HB.out.size));obtain ⟨s0,s1,s2,s3,s4, -⟩:=cm hR;have EJ:=Hd (xF p ia ic da dc w6 (pgV_at (BN.out.below ET.out) Cx.out) (by have:=Cx.out.items;omega));unfold pgv at EJ;rw [DG.out.1,DG.out.2.1,DG.out.2.2.1,DG.out.2.2.2.1,DG.out.2.2.2.2] at EJ;clear hR hC));refine EJ.out.mono ?_;clear s0 s1 s2 s3 s4;rintro _ w7 ⟨ka,kc,rfl,hK,hKl,hb7⟩;have GJ:=Hd hK;have HKL7:=Hd hKl;have Bq:=Hd (Bg.out.trans (hb7.mono Bg.out.size));have HB17:=Hd (FH.out.trans (hb7.mono FH.out.size));have C3:=Hd (mC Cx.out).1;have Ez:=uP Cx.out;obtain ⟨ks,hks⟩:∃ ks,fw p=ks:=⟨_,rfl⟩;rw [hks] at Ez C3 GJ⊢;obtain ⟨kl,hkl⟩:∃ kl,ks.length=kl:=⟨_,rfl⟩;have Fh:=Hd hks;have Cb:=Hd hkl;rw [hkl] at Ez⊢;have FA:=Hd Ez;have HOK2:=Hd (C7.out.pop Ga.out);have DI:=Hd (show tb<w1.heap.size∧w1.heap.size≤w6.heap.size from ⟨Dl.out.lt tb rfl,FH.out.size⟩);have HTK7:=Hd (Dl.out.chg (F:=λ_=>False) (ac HB17.out) (λ_ _ f=>f));have HM7:=Hd (HM.out.chg (F:=λ_=>False) (ac HB17.out) (λf=>f));have HST7:=Hd (show ni w w.heap.size (m,s) N (.slice (some ⟨tb,0,none⟩) k tc) w7 from ⟨⟨some ⟨tb,0,none⟩,tc,by rw [←D8.out],by rw [show (m,s).2.length=k from D8.out];exact HTK7.out,λk e=>by cases e;exact Dk.out⟩,HM7.out,Bq.out⟩);have HAP7:=Hd (show ∀ ta sl tc',Value.slice (some ⟨tb,0,none⟩) k tc= .slice ta sl tc'→∀ x,blk ta=some x→blk ka≠some x from λta sl tc' e x e2 e3=>by injection e with e4 _ _;subst e4;cases e2;have:=HKL7.out _ e3;have:=DI.out;simp only at*;omega);have HMW:=Hd (show w.heap.size<w6.heap.size from an HM.out.lt FH.out.size);clear hK hKl hb7 hks hkl Ez EJ ET BN BK Bk Bl Bd Cg Dl HM;go_wp2_with fail;go_loopw [7,65] (λtv iv wr=>y8 w w.heap.size ks ka kc N (m,s) tv iv wr) (λ_ iv _=>kl-(intOf iv).toNat);case atStart=>exact ⟨0,N,aV _,am _,rfl,HST7.out,GJ.out,HAP7.out⟩
        case round=>
         obtain ⟨w3,hw3⟩:∃ w3,w3=wr:=⟨_,rfl⟩;subst hw3;obtain ⟨i,Ni,hi,hNi,rfl,⟨⟨ta,tc3,rfl,hT,hTl⟩,hM,hB⟩,hK,hap⟩:=hrel;rw [Cb.out] at hi;by_cases hii:i<kl
         ·obtain ⟨x,hx⟩:∃ x,ks[i]?=some x:=⟨_,ap (by rw [Cb.out];exact hii)⟩;obtain ⟨kb,rfl,e9, -⟩:=ai hK (j:=i) (u:= .int .i64 x) (by simp [cj,hx]);have hxr:=C3.out x (aD hx);have hxw:(Lit.int .i64 x).wf=true:=iy hxr;have HII:=Hd hii;have hkl8:=FA.out;have HNi:=Hd hNi;have Bw:=Hd (x7 hx (m,s));have HOKi:=Hd ((HOK2.out.many (ks:=ks.take i) (λk hk=>C3.out k (List.mem_of_mem_take hk))).few);have HLM:=Hd (mT (ks:=ks.take i) (s:=(m,s)) (λk hk=>C3.out k (List.mem_of_mem_take hk)));obtain ⟨st,hst⟩:∃ st,ledK (ks.take i) (m,s)=st:=⟨_,rfl⟩;rw [hst] at Bw HOKi HLM hT hM;rw [hst];obtain ⟨sl,hsl⟩:∃ sl,st.2.length=sl:=⟨_,rfl⟩;have GS:=Hd hsl;have HSL9:=Hd (show sl≤1000000 from by have h1:=HLM.out;(have h2:sl≤ledM st:=by rw [←hsl];exact Nat.le_add_left _ _);(have h3:ledM (m,s)≤ledM (m,s++[n]):=by show iw (ir m)+s.length≤iw (ir m)+(s++[n]).length;rw [aq];exact Nat.add_le_add_left (Nat.le_add_right _ _) _);have h4:=HQM.out;have h5:=Cd.out;omega);rw [hsl] at hT⊢;have HTr:=Hd hT;have HTlr:=Hd hTl;have HMr:=Hd hM;have De:=Hd hB;have HKr:=Hd hK;have HAP:=Hd (show ∀ y,blk ta=some y→kb≠y from λy hy e=>hap ta _ tc3 rfl y hy (by rw [e];rfl));have HKW:=Hd (show ∀ k,blk (some ⟨kb,0,none⟩)=some k→w.heap.size<k from λk e=>by have:=HKL7.out k e;have:=HMW.out;omega);have Cq:=Hd (OR.lt hK kb rfl);clear hsl hst hT hTl hM hB hK hap hx hNi;obtain ⟨q1,hq⟩:∃ q1,st.1 x=q1:=⟨_,rfl⟩;(have hq9:q1≤1000000:=by have h1:=HOKi.out x;have h2:=Cd.out;rw [hq,aC] at h1;have h3:min i ks.length≤8:=ao (Nat.min_le_left _ _) (by have:=FA.out;omega);omega);by_cases h0:q1=0
          ·subst h0;(have hq0:((st.1 x:Nat):Int)=0:=by rw [hq];rfl);(have hq1:((st.1 x:Nat):Int)+1=1:=by rw [hq];rfl);(have hq2:((bump st.1 x x:Nat):Int)=1:=by rw [jS,hq];rfl);have HQ0:=Hd hq;clear hq
           go_wp2_with (first
          |(at_lookup;refine dQ rfl (.tmp 69) (.tmp 70) rfl rfl HMr.out x rfl hxw 0 hq0 ?_)
          |(at_lookup;refine dQ rfl (.tmp 73) (.tmp 74) rfl rfl CS.out x rfl hxw 1 hq2 ?_)
          |(refine gj rfl (.tmp 69) (.tmp 70) (.tmp 72) rfl rfl HMr.out (by have:=HNi.out;have:=Gf.out;have:=FA.out;unfold maxLen;omega) x rfl hxw 1 rfl hq1 ?_;intro w12 hm hc;have CS:=Hd hm;have Bx:=Hd hc;have Cp:=Hd (HTr.out.chg hc (λk e f=>(HTlr.out k e).2 f));have HK2:=Hd (aj HKr.out hc (λk e f=>by have:=HKW.out k e;omega));have hb3:=bY w12 (.cells #[.int .i64 x] 3);have BR:=Hd (fv w12 (.int .i64 x) 3);have CP:=Hd (Cp.out.chg (F:=λ_=>False) (ac hb3) (λ_ _ f=>f));have HK3:=Hd (aj HK2.out (F:=λ_=>False) (ac hb3) (λ_ _ f=>f));have EI:=Hd (CS.out.chg (F:=λ_=>False) (ac hb3) (λf=>f));have HB2r:=Hd (De.out.trans (hc.below De.out.size (λk e=>by omega)));have HB3r:=Hd (HB2r.out.trans (hb3.mono HB2r.out.size));clear hm hc hb3)
          |(at_builtin;go_must (refine cg eN rfl (.tmp 77) (.tmp 79) rfl rfl CP.out rfl (m:=1) (news:=[.int .i64 x]) rfl (.inr ⟨_,rfl,BR.out⟩) (by simp [Value.oneCell']) (by have:=HSL9.out;show (sl+1)*8≤_;omega) (by have:=HSL9.out;omega) ?_)
            intro ta4 tc4 w14 hO4 hC4 hb4 _
            have BH:=Hd hO4
            have Bz:=Hd hC4
            have Be:=Hd hb4
            clear hO4 hC4 hb4))
           have HREL:=Hd (show y8 w w.heap.size ks (some ⟨kb,0,none⟩) kc N (m,s) (.slice ta4 (sl+1) tc4) (.int .i64 ((i:Int)+1)) w14 from by
            have hmb:∀ k,blk ta=some k→k≠w.heap.size:=λk e=>(HTlr.out k e).2
            have hs3:=HB3r.out.size
            have hm3:=EI.out.lt
            have hk3:=OR.lt HK3.out kb rfl
            refine ⟨i+1,Ni+1,by rw [Cb.out];exact HII.out,by have:=HNi.out;omega,rfl,?_,aj HK3.out Bz.out (λk e f=>by cases e;exact HAP.out _ f rfl),?_⟩
            · rw [Bw.out]
              refine pB GS.out BH.out (λk e=>?_) (EI.out.chg Bz.out (λe=>hmb _ e rfl)) (HB3r.out.trans (Bz.out.below HB3r.out.size (λk e=>(HTlr.out k e).1))) HQ0.out
              rcases Be.out with h|h
              · exact HTlr.out k (h▸e)
              · rw [h] at e
                cases e
                omega
            · rintro ta' sl' tc' e y hy e3
              injection e with e4 _ _
              subst e4
              cases e3
              rcases Be.out with h|h
              · exact HAP.out _ (h▸hy) rfl
              · have h5:=a8 (h.symm.trans hy)
                simp only [aX] at h5 hk3
                omega)
           go_wp2_with fail
           go_roundw
           case rel=>exact HREL.out
           case measure=>exact cw HII.out
          ·(have hq0:((st.1 x:Nat):Int)=(q1:Int):=by rw [hq]);(have hq1:((st.1 x:Nat):Int)+1=(q1:Int)+1:=by rw [hq]);(have hq2:((bump st.1 x x:Nat):Int)=(q1:Int)+1:=by rw [jS,hq];omega);(have hw1:IntKind.i64.wrap ((q1:Int)+1)=(q1:Int)+1:=by rw [IntKind.wrap_i64];omega);(have hqd:((q1:Int)+1==1)=false:=by rw [br];omega);have HQ0:=Hd (show st.1 x≠0 by rw [hq];exact h0);clear hq
           go_wp2_with (first
          |(at_lookup;refine dQ rfl (.tmp 69) (.tmp 70) rfl rfl HMr.out x rfl hxw (q1:Int) hq0 ?_)
          |(at_lookup;refine dQ rfl (.tmp 73) (.tmp 74) rfl rfl CS.out x rfl hxw ((q1:Int)+1) hq2 ?_)
          |(refine gj rfl (.tmp 69) (.tmp 70) (.tmp 72) rfl rfl HMr.out (by have:=HNi.out;have:=Gf.out;have:=FA.out;unfold maxLen;omega) x rfl hxw ((q1:Int)+1) rfl hq1 ?_
            intro w12 hm hc
            have CS:=Hd hm
            have Bx:=Hd hc
            have Cp:=Hd (HTr.out.chg hc (λk e f=>(HTlr.out k e).2 f))
            have HK2:=Hd (aj HKr.out hc (λk e f=>by have:=HKW.out k e;omega))
            have hb3:=bY w12 (.cells #[.int .i64 x] 3)
            have BR:=Hd (fv w12 (.int .i64 x) 3)
            have CP:=Hd (Cp.out.chg (F:=λ_=>False) (ac hb3) (λ_ _ f=>f))
            have HK3:=Hd (aj HK2.out (F:=λ_=>False) (ac hb3) (λ_ _ f=>f))
            have EI:=Hd (CS.out.chg (F:=λ_=>False) (ac hb3) (λf=>f))
            have HB2r:=Hd (De.out.trans (hc.below De.out.size (λk e=>by omega)))
            have HB3r:=Hd (HB2r.out.trans (hb3.mono HB2r.out.size))
            clear hm hc hb3))
           have HREL:=Hd (show y8 w w.heap.size ks (some ⟨kb,0,none⟩) kc N (m,s) (.slice ta sl tc3) (.int .i64 ((i:Int)+1)) w12 from by
            refine ⟨i+1,Ni+1,by rw [Cb.out];exact HII.out,by have:=HNi.out;omega,rfl,?_,HK2.out,?_⟩
            · rw [Bw.out]
              exact pA GS.out Cp.out HTlr.out CS.out HB2r.out HQ0.out
            · rintro ta' sl' tc' e y hy e3
              injection e with e4 _ _
              subst e4
              cases e3
              exact HAP.out _ hy rfl)
           go_wp2_with fail
           go_roundw
           case rel=>exact HREL.out
           case measure=>exact cw HII.out
         ·(obtain rfl:i=kl:=by omega);(have e0:ledK (ks.take i) (m,s)=ledK ks (m,s):=by rw [av (aS Cb.out)]);rw [e0] at hT hM⊢;have HREL:=Hd (show ∃ q',vW rd w w.heap.size ts q' (.slice ta (ledK ks (m,s)).2.length tc3) w3∧q'<q from by have h1:=HQM.out;have h2:ledM (ledK ks (m,s))≤ledM (m,s):=mT C3.out;(have h3:ledM (m,s)+1=ledM (m,s++[n]):=by show iw (ir m)+s.length+1=iw (ir m)+(s++[n]).length;rw [aq];rfl);have h4:=Cd.out;have h5:=Gf.out;have h6:=FA.out;have h7:=HOK2.out.many C3.out;rw [Cb.out] at h7;refine ⟨_,⟨ledK ks (m,s),Ni,B+i,⟨⟨ta,tc3,rfl,hT,hTl⟩,hM,hB⟩,rfl,h7,by omega,by omega,λr hr=>HLE.out _ (.step m s n p _ r rfl Ga.out ?_)⟩,by omega⟩;rw [Fh.out];exact hr);clear hT hTl hM hB hK hap hNi;generalize (ledK ks (m,s)).2.length=sl at*;go_wp2_with fail;go_roundw;(case rel=>obtain ⟨q',h, -⟩:=HREL.out;exact ⟨q',h⟩);case measure=>rw [HQ.out];obtain ⟨q',h,h2⟩:=HREL.out;exact bQ (jL h) h2
end Go.Proofs.YtchbedbmjiabgaaGreatDoor
