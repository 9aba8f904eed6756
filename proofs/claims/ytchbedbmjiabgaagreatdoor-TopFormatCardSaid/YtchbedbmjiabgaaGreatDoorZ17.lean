/- TopFormat, part 17 of the proof: TLaw TVault. No condition. -/
import Derived.Test.YtchbedbmjiabgaaGreatDoorZ16
set_option linter.all false
set_option maxHeartbeats 16000000
set_option maxRecDepth 100000
namespace Go.Proofs.YtchbedbmjiabgaaGreatDoor
open Go.Proofs.Tryz
structure RG where
 (lo hi:List UInt8) (op:Bool)
def allR:RG:=⟨[],[],true⟩
def ek (k:List UInt8):Bool:=decide (1≤k.length)&&decide (k.length≤24)
def hasR (r:RG) (k:List UInt8):Bool:=ek k&&(decide (0≤Lib.compareBytes k r.lo)&&(r.op||decide (Lib.compareBytes k r.hi<0)))
def dW (a b:List UInt8):List UInt8:=if Lib.compareBytes a b<0 then b else a
def jc (a b:List UInt8):List UInt8:=if 0<Lib.compareBytes a b then b else a
def du (a b:RG):RG:=⟨dW a.lo b.lo,if (a.op&&b.op)=true then [] else if a.op=true then b.hi else if b.op=true then a.hi else jc a.hi b.hi,a.op&&b.op⟩
def mZ (k:List UInt8):List UInt8:=if ek k=true then k else [0]
def jp (r:RG):Bool:= !hasR r (mZ r.lo)
def ownR (xs:List PI) (i:Nat) (x:PI):RG:=match xs[i+1]? with
 |some y=>⟨x.key,y.key,false⟩
 |none=>⟨x.key,[],true⟩
theorem wI (a:List UInt8):0≤Lib.compareBytes a []:=by cases a<;>simp [Lib.compareBytes]
theorem wm (a:List UInt8):Lib.compareBytes [] a≤0:=by cases a<;>simp [Lib.compareBytes]
theorem iD:∀ a:List UInt8,Lib.compareBytes a a=0
 |[]=>rfl
 |x::a=>by simp only [Lib.compareBytes,UInt8.lt_irrefl,if_false];exact iD a
theorem fT:∀ a b:List UInt8,Lib.compareBytes a b= -Lib.compareBytes b a
 |[],[]=>rfl
 |[],y::b=>rfl
 |x::a,[]=>rfl
 |x::a,y::b=>by simp only [Lib.compareBytes];by_cases h1:x<y;have h2:¬ y<x:=λh=>absurd (UInt8.lt_trans h1 h) (UInt8.lt_irrefl _);simp [h1,h2];by_cases h2:y<x;simp [h1,h2];simp [h1,h2];exact fT a b
theorem l5:∀ a b c:List UInt8,Lib.compareBytes a b≤0→Lib.compareBytes b c<0→Lib.compareBytes a c<0
 |[],[],c,_,h=>h
 |[],y::b,[],_,h=>by simp [Lib.compareBytes] at h
 |[],y::b,z::c,_,_=>by simp [Lib.compareBytes]
 |x::a,[],c,h,_=>by simp [Lib.compareBytes] at h
 |x::a,y::b,[],_,h=>by simp [Lib.compareBytes] at h
 |x::a,y::b,z::c,h1,h2=>by simp only [Lib.compareBytes] at h1 h2⊢;by_cases xy:x<y;by_cases yz:y<z;simp [UInt8.lt_trans xy yz];by_cases zy:z<y;simp [yz,zy] at h2;obtain rfl:y=z:=UInt8.le_antisymm (UInt8.not_lt.1 zy) (UInt8.not_lt.1 yz);simp [xy];by_cases yx:y<x;simp [xy,yx] at h1;obtain rfl:x=y:=UInt8.le_antisymm (UInt8.not_lt.1 yx) (UInt8.not_lt.1 xy);by_cases yz:x<z;simp [yz];by_cases zy:z<x;simp [yz,zy] at h2;simp only [UInt8.lt_irrefl,if_false,yz,zy] at h1 h2⊢;exact l5 a b c h1 h2
theorem l4 (a b c:List UInt8) (h1:Lib.compareBytes a b<0) (h2:Lib.compareBytes b c≤0):Lib.compareBytes a c<0:=by
 rcases Int.lt_or_le (Lib.compareBytes a c) 0 with h|h;exact h
 ·have h3:Lib.compareBytes c a≤0:=by rw [fT];omega
  have h4:=l5 c a b h3 h1;rw [fT] at h4;omega
theorem pQ (a b c:List UInt8) (h1:Lib.compareBytes a b≤0) (h2:Lib.compareBytes b c≤0):Lib.compareBytes a c≤0:=by
 rcases Int.lt_or_le 0 (Lib.compareBytes a c) with h|h
 ·have h3:Lib.compareBytes c a<0:=by rw [fT];omega
  have h4:=l4 c a b h3 h1;rw [fT] at h4;omega
 exact h
theorem more_l (a b:List UInt8):Lib.compareBytes a (dW a b)≤0:=by unfold dW;split;omega;rw [iD];omega
theorem more_r (a b:List UInt8):Lib.compareBytes b (dW a b)≤0:=by unfold dW;split;rw [iD];omega;rw [fT];omega
theorem less_r (a b:List UInt8):Lib.compareBytes (jc a b) b≤0:=by unfold jc;split;rw [iD];omega;omega
theorem less_l (a b:List UInt8):Lib.compareBytes (jc a b) a≤0:=by unfold jc;split;rw [fT];omega;rw [iD];omega
theorem hasR_iff {r:RG} {k:List UInt8}:hasR r k=true↔ek k=true∧Lib.compareBytes r.lo k≤0∧(r.op=true∨Lib.compareBytes k r.hi<0):=by unfold hasR;have e:=fT k r.lo;cases hk:ek k<;>cases hop:r.op<;>simp<;>omega
theorem pI {a b:RG} {k:List UInt8} (h:hasR (du a b) k=true):hasR a k=true∧hasR b k=true:=by rw [hasR_iff] at h;obtain ⟨h1,h2,h3⟩:=h;simp only [du] at h2 h3;refine ⟨hasR_iff.2 ⟨h1,pQ _ _ _ (more_l a.lo b.lo) h2,?_⟩,hasR_iff.2 ⟨h1,pQ _ _ _ (more_r a.lo b.lo) h2,?_⟩⟩;cases ha:a.op;refine .inr ?_;rw [ha] at h3;cases hb:b.op;simp [hb] at h3;exact l4 _ _ _ h3 (less_l _ _);simpa [hb] using h3;exact .inl rfl;cases hb:b.op;refine .inr ?_;rw [hb] at h3;cases ha:a.op;simp [ha] at h3;exact l4 _ _ _ h3 (less_r _ _);simpa [ha] using h3;exact .inl rfl
theorem isKeyB_iff {k:List UInt8}:ek k=true↔1≤k.length∧k.length≤24:=by simp [ek]
theorem xL {r:RG} {k:List UInt8} (h:hasR r k=true) (hl:r.lo.length≤24):jp (du r allR)=false:=by
 have e1:dW r.lo []=r.lo:=by unfold dW;rw [bg (by have:=wI r.lo;omega)]
 obtain ⟨h1,h2,h3⟩:=hasR_iff.1 h;unfold jp;have e2:(du r allR).lo=r.lo:=e1;rw [e2];have h5:∀ q,ek q=true→Lib.compareBytes r.lo q≤0→Lib.compareBytes q k≤0→hasR (du r allR) q=true:=by intro q hq hq1 hq2;refine hasR_iff.2 ⟨hq,by rw [e2];exact hq1,?_⟩;rcases h3 with h3|h3;exact .inl (by simp [du,allR,h3]);cases hop:r.op;refine .inr ?_;simp [du,allR,hop];exact l5 _ _ _ hq2 h3;exact .inl (by simp [du,allR,hop])
 unfold mZ;split
 ·rename_i hk;rw [h5 _ hk (by rw [iD];omega) h2];rfl
 ·rename_i hk;have hn:r.lo=[]:=by rw [isKeyB_iff] at hk;exact bF.1 (by omega)
  rw [h5 [0] (by decide) (by rw [hn];exact wm _) ?_];· rfl
  obtain ⟨hk1, -⟩:=isKeyB_iff.1 h1;match k,hk1 with
  |x::k,_=>
   simp only [Lib.compareBytes];split;omega
   ·rename_i h6;split
    ·rename_i h7;exact absurd h7 (by simp)
    exact wm k
abbrev Met:=Int→Bool
abbrev Rdr:=Int→Option PP
def fk (rd:Rdr) (m:Met) (n:Int):Option PP:=if m n=true then none else rd n
def dG (m:Met) (n:Int):Met:=λk=>if k=n then true else m k
def cG (p:PP) (left:Int):Bool:=decide (p.kind=3)&&(decide ((p.data.length:Int)=min left 480)&&(decide (p.next=0)==decide (left≤480)))
def fy (rd:Rdr):Nat→Int→Int→Met→Option Met
 |0,left,n,m=>if left≤0 then some m else none
 |f+1,left,n,m=>if left≤0 then some m else
  match fk rd m n with
  |none=>none
  |some p=>if cG p left=true then fy rd f (left-min left 480) p.next (dG m n) else none
def jg (rd:Rdr) (r:RG) (m:Met) (x:PI):Option Met:=
 if hasR r x.key=false then none else if x.size≤32 then some m else fy rd x.size.toNat x.size x.child m
def ed (g:Nat→PI→Met→Option (Met×List PI)):List PI→Nat→Met→Option (Met×List PI)
 |[],_,m=>some (m,[])
 |x::xs,i,m=>match g i x m with
  |none=>none
  |some (m1,o1)=>match ed g xs (i+1) m1 with
   |none=>none
   |some (m2,o2)=>some (m2,o1++o2)
def mt (rd:Rdr) (r:RG) (_:Nat) (x:PI) (m:Met):Option (Met×List PI):=(jg rd r m x).map λm1=>(m1,[x])
def df (p:PP) (l least:Nat):Bool:=decide (p.level=(l:Int))&&(decide ((p.kind=1)↔(l=0))&&(decide (p.kind≠3)&&decide (least≤p.items.length)))
def eM (rd:Rdr):Nat→Int→Nat→RG→Met→Option (Met×List PI)
 |0,n,least,r,m=>match fk rd m n with
  |none=>none
  |some p=>if df p 0 least=true then ed (mt rd r) p.items 0 (dG m n) else none
 |l+1,n,least,r,m=>match fk rd m n with
  |none=>none
  |some p=>if df p (l+1) least=true then ed (λi x m=>eM rd l x.child 4 (du r (ownR p.items i x)) m) p.items 0 (dG m n) else none
theorem i8 (g:Nat→PI→Met→Option (Met×List PI)):∀ (xs ys:List PI) (i:Nat) (m:Met),ed g (xs++ys) i m=match ed g xs i m with
  |none=>none
  |some (m1,o1)=>match ed g ys (i+xs.length) m1 with
   |none=>none
   |some (m2,o2)=>some (m2,o1++o2)
 |[],ys,i,m=>by simp only [a7,ed,aR,Nat.add_zero];cases ed g ys i m<;>simp
 |x::xs,ys,i,m=>by
  simp only [aZ,ed,aG];cases g i x m with
  |none=>rfl
  |some r=>
   obtain ⟨m1,o1⟩:=r;simp only [i8 g xs ys (i+1) m1];rw [show i+1+xs.length=i+(xs.length+1) by omega];cases ed g xs (i+1) m1 with
   |none=>rfl
   |some r2=>obtain ⟨m2,o2⟩:=r2;simp only;cases ed g ys (i+(xs.length+1)) m2<;>simp
theorem yy {g:Nat→PI→Met→Option (Met×List PI)} {xs:List PI} {j:Nat} {x:PI} {m m1 m2:Met} {o1 o2:List PI} (hx:xs[j]?=some x) (h:ed g (xs.take j) 0 m=some (m1,o1)) (hg:g j x m1=some (m2,o2)):ed g (xs.take (j+1)) 0 m=some (m2,o1++o2):=by have hj:j<xs.length:=(ar.1 hx).1;rw [bm,hx,i8,h];simp only [Option.toList_some,ed,aC,bP,Nat.min_eq_left (Nat.le_of_lt hj),hg,bC]
theorem rU {g:Nat→PI→Met→Option (Met×List PI)} {xs:List PI} {j:Nat} {x:PI} {m m1:Met} {o1:List PI} (hx:xs[j]?=some x) (h:ed g (xs.take j) 0 m=some (m1,o1)) (hg:g j x m1=none):ed g xs 0 m=none:=by
 have hj:j<xs.length:=(ar.1 hx).1
 have e:xs=xs.take j++x::xs.drop (j+1):=by
  conv=>lhs;rw [←bL j xs,List.drop_eq_getElem_cons hj]
  rw [(ar.1 hx).2]
 rw [e,i8,h];simp only [ed,aC,bP,Nat.min_eq_left (Nat.le_of_lt hj),hg]
theorem fU {g:Nat→PI→Met→Option (Met×List PI)}:∀ {xs:List PI} {i:Nat} {m m':Met} {out:List PI},ed g xs i m=some (m',out)→∃ ks:List (List PI),out=ks.flatten∧ks.length=xs.length∧∀ j x k,xs[j]?=some x→ks[j]?=some k→∃ m1 m2,g (i+j) x m1=some (m2,k)
 |[],i,m,m',out,h=>by
  simp only [ed,bK,Prod.mk.injEq] at h
  exact ⟨[],by simp [←h.2],rfl,λj x k hx=>by simp at hx⟩
 |x::xs,i,m,m',out,h=>by
  simp only [ed] at h
  cases hg:g i x m with
  |none=>rw [hg] at h;cases h
  |some r=>
   obtain ⟨m1,o1⟩:=r
   rw [hg] at h
   simp only at h
   cases hf:ed g xs (i+1) m1 with
   |none=>rw [hf] at h;cases h
   |some r2=>
    obtain ⟨m2,o2⟩:=r2
    rw [hf] at h
    simp only [bK,Prod.mk.injEq] at h
    obtain ⟨rfl,rfl⟩:=h
    obtain ⟨ks,h1,h2,h3⟩:=fU hf
    refine ⟨o1::ks,by simp [h1],by simp [h2],λj y k hy hk=>?_⟩
    cases j with
    |zero=>
     simp at hy hk
     subst hy hk
     exact ⟨m,m1,hg⟩
    |succ j=>
     simp at hy hk
     obtain ⟨a,b,h4⟩:=h3 j y k hy hk
     exact ⟨a,b,by rw [show i+(j+1)=i+1+j by omega];exact h4⟩
def eo (rd:Rdr):Nat→Int→Int→Option (List UInt8)
 |0,left,n=>if left≤0 then some [] else none
 |f+1,left,n=>if left≤0 then some [] else
  match rd n with
  |none=>none
  |some p=>if cG p left=true then (eo rd f (left-min left 480) p.next).map (p.data++·) else none
def qT (x:PI):Bool:=decide (0≤x.size)&&(decide (x.size≤3840)&&(decide (32<x.size)||decide ((x.value.length:Int)=x.size)))
def valF (rd:Rdr) (x:PI):Option (List UInt8):=if qT x=false then none else if x.size≤32 then some x.value else eo rd x.size.toNat x.size x.child
theorem pR {rd:Rdr}:∀ {f:Nat} {left n:Int} {m m':Met},fy rd f left n m=some m'→∃ d,eo rd f left n=some d
 |0,left,n,m,m',h=>by
  simp only [fy] at h
  split at h
  · rename_i h0;exact ⟨[],by simp only [eo];rw [bh h0]⟩
  · cases h
 |f+1,left,n,m,m',h=>by
  simp only [fy] at h
  split at h
  · rename_i h0;exact ⟨[],by simp only [eo];rw [bh h0]⟩
  · rename_i h0
    unfold fk at h
    split at h
    · cases h
    · rename_i p hp
      split at hp
      · cases hp
      split at h
      · rename_i hok
        obtain ⟨d,hd⟩:=pR h
        exact ⟨p.data++d,by simp only [eo];rw [bg h0,hp];simp only;rw [bh hok,hd];rfl⟩
      · cases h
theorem AD {rd:Rdr} {r:RG} {m m':Met} {x:PI} (h:jg rd r m x=some m') (hr:RightI 1 x):∃ v,valF rd x=some v:=by
 unfold jg at h;split at h;cases h;have h1:=hr.leaf rfl;have hok:qT x=true:=by unfold qT;by_cases h2:x.size≤32;have:=(hr.small rfl h2).1;simp;omega;simp;omega
 unfold valF;rw [hok,bg (by decide)];split at h
 ·rename_i h2;exact ⟨x.value,by rw [bh h2]⟩
 ·rename_i h2;rw [bg h2];exact pR h
inductive fa (rd:Rdr):Int→List PI→Nat→Prop
 |leaf {n:Int} {p:PP} (h:rd n=some p) (hk:p.kind=1) (ha:∀ x∈p.items,ek x.key=true):fa rd n p.items 1
 |node {n:Int} {p:PP} (ks:List (List PI×Nat)) (h:rd n=some p) (hk:p.kind=2) (hl:ks.length=p.items.length) (hs:∀ (i:Nat) (x:PI) (k:List PI×Nat),p.items[i]?=some x→ks[i]?=some k→fa rd x.child k.1 k.2)
   (he:∀ (i:Nat) (x:PI),p.items[i]?=some x→jp (du (ownR p.items i x) allR)=false):fa rd n (ks.map (·.1)).flatten (1+(ks.map (·.2)).sum)
theorem ownR_lo (xs:List PI) (i:Nat) (x:PI):(ownR xs i x).lo=x.key:=by unfold ownR;split<;>rfl
theorem rL {rd:Rdr}:∀ {l:Nat} {n:Int} {least:Nat} {r:RG} {m m':Met} {out:List PI},1≤least→eM rd l n least r m=some (m',out)→∃ k,hasR r k=true
 |0,n,least,r,m,m',out,h1,h=>by
  simp only [eM] at h
  split at h
  · cases h
  rename_i p hp
  split at h
  · rename_i hok
    have hn:1≤p.items.length:=by simp [df] at hok;omega
    obtain ⟨ks, -,hl,hg⟩:=fU h
    obtain ⟨x,hx⟩:∃ x,p.items[0]?=some x:=⟨_,ap (by omega)⟩
    obtain ⟨k,hk⟩:∃ k,ks[0]?=some k:=⟨_,ap (by omega)⟩
    obtain ⟨m1,m2,h2⟩:=hg 0 x k hx hk
    unfold mt at h2
    cases h3:jg rd r m1 x with
    |none=>rw [h3] at h2;cases h2
    |some m3=>
     unfold jg at h3
     split at h3
     · cases h3
     · rename_i h4;exact ⟨x.key,by simpa using h4⟩
  · cases h
 |l+1,n,least,r,m,m',out,h1,h=>by
  simp only [eM] at h
  split at h
  · cases h
  rename_i p hp
  split at h
  · rename_i hok
    have hn:1≤p.items.length:=by simp [df] at hok;omega
    obtain ⟨ks, -,hl,hg⟩:=fU h
    obtain ⟨x,hx⟩:∃ x,p.items[0]?=some x:=⟨_,ap (by omega)⟩
    obtain ⟨k,hk⟩:∃ k,ks[0]?=some k:=⟨_,ap (by omega)⟩
    obtain ⟨m1,m2,h2⟩:=hg 0 x k hx hk
    obtain ⟨q,hq⟩:=rL (by omega) h2
    exact ⟨q,(pI hq).1⟩
  · cases h
theorem jt {rd:Rdr} {m:Met} {n:Int} {p:PP} (h:fk rd m n=some p):rd n=some p:=by unfold fk at h;split at h;cases h;exact h
theorem kt {rd:Rdr} (hrt:∀ n p,rd n=some p→RightP p):∀ {l:Nat} {n:Int} {least:Nat} {r:RG} {m m':Met} {out:List PI},eM rd l n least r m=some (m',out)→(∃ c,fa rd n out c∧c+1≤2*8^l)∧(∀ x∈out,∃ v,valF rd x=some v)∧out.length≤8^(l+1)
 |0,n,least,r,m,m',out,h=>by
  simp only [eM] at h
  split at h
  · cases h
  rename_i p hp
  have hp:=jt hp
  have hR:=hrt n p hp
  split at h
  · rename_i hok
    have hk:p.kind=1:=by simp [df] at hok;exact hok.2.1
    obtain ⟨ks,e,hl,hg⟩:=fU h
    have hit:∀ (j:Nat) (x:PI) (k:List PI),p.items[j]?=some x→ks[j]?=some k→k=[x]∧ek x.key=true∧∃ v,valF rd x=some v:=by
     intro j x k hx hk2
     obtain ⟨m1,m2,h2⟩:=hg j x k hx hk2
     unfold mt at h2
     cases h3:jg rd r m1 x with
     |none=>rw [h3] at h2;cases h2
     |some m3=>
      rw [h3] at h2
      simp only [Option.map_some,bK,Prod.mk.injEq] at h2
      refine ⟨h2.2.symm,?_,AD h3 (by have:=hR.all j x hx;rw [hk] at this;exact this)⟩
      unfold jg at h3
      split at h3
      · cases h3
      · rename_i h4;exact (hasR_iff.1 (by simpa using h4)).1
    have e2:ks=p.items.map (λx=>[x]):=by
     apply List.ext_getElem?
     intro j
     rw [aY]
     cases hj:p.items[j]? with
     |none=>simp only [Option.map_none];exact aP (by rw [hl];exact List.getElem?_eq_none_iff.1 hj)
     |some x=>
      have hjl:=(ar.1 hj).1
      obtain ⟨k,hk2⟩:∃ k,ks[j]?=some k:=⟨_,ap (by omega)⟩
      rw [hk2,(hit j x k hj hk2).1];rfl
    have e3:out=p.items:=by
     rw [e,e2]
     generalize p.items=l
     induction l with
     |nil=>rfl
     |cons a l ih=>simp [ih]
    subst e3
    have hall:∀ x∈p.items,ek x.key=true∧∃ v,valF rd x=some v:=by
     intro x hx
     obtain ⟨j,hj⟩:=bW hx
     have hjl:=(ar.1 hj).1
     obtain ⟨k,hk2⟩:∃ k,ks[j]?=some k:=⟨_,ap (by omega)⟩
     exact (hit j x k hj hk2).2
    exact ⟨⟨1,.leaf hp hk λx hx=>(hall x hx).1,by simp⟩,λx hx=>(hall x hx).2,by have:=hR.items;simpa using this⟩
  · cases h
 |l+1,n,least,r,m,m',out,h=>by
  simp only [eM] at h
  split at h
  · cases h
  rename_i p hp
  have hp:=jt hp
  have hR:=hrt n p hp
  split at h
  · rename_i hok
    have hk:p.kind=2:=by
     simp [df] at hok
     have:=hR.kind
     omega
    obtain ⟨ks,e,hl,hg⟩:=fU h
    have hit:∀ (j:Nat) (x:PI) (k:List PI),p.items[j]?=some x→ks[j]?=some k→(∃ c,fa rd x.child k c∧c+1≤2*8^l)∧(∀ y∈k,∃ v,valF rd y=some v)∧k.length≤8^(l+1)∧jp (du (ownR p.items j x) allR)=false:=by
     intro j x k hx hk2
     obtain ⟨m1,m2,h2⟩:=hg j x k hx hk2
     rw [bP] at h2
     obtain ⟨h3,h4,h5⟩:=kt hrt h2
     obtain ⟨q,hq⟩:=rL (by omega) h2
     exact ⟨h3,h4,h5,xL (pI hq).2 (by rw [ownR_lo];exact (hR.all j x hx).key)⟩
    have hkl:∀ {j:Nat},j<p.items.length→∃ k,ks[j]?=some k:=λhj=>⟨_,ap (by omega)⟩
    have hil:∀ {j:Nat},j<ks.length→∃ k,p.items[j]?=some k:=λhj=>⟨_,ap (by omega)⟩
    have hcs:∃ cs:List (List PI×Nat),cs.map (·.1)=ks∧∀ (i:Nat) (x:PI) (k:List PI×Nat),p.items[i]?=some x→cs[i]?=some k→fa rd x.child k.1 k.2∧k.2+1≤2*8^l:=by
     have h9:∀ i:Fin ks.length,∃ c,fa rd (p.items[i.1]'(by omega)).child ks[i.1] c∧c+1≤2*8^l:=λi=>(hit i.1 _ _ (ap (by omega)) (ap i.2)).1
     refine ⟨List.ofFn λi:Fin ks.length=>(ks[i.1],Classical.choose (h9 i)),?_,?_⟩
     · apply List.ext_getElem?
       intro j
       rw [aY,List.getElem?_ofFn]
       by_cases hj:j<ks.length
       · rw [dif_pos hj,ap hj];rfl
       · rw [dif_neg hj,aP (by omega)];rfl
     · intro i x k hx hk2
       rw [List.getElem?_ofFn] at hk2
       by_cases hj:i<ks.length
       · rw [dif_pos hj] at hk2
         cases hk2
         obtain ⟨hx1,hx2⟩:=ar.1 hx
         have h7:=Classical.choose_spec (h9 ⟨i,hj⟩)
         subst hx2
         exact h7
       · rw [dif_neg hj] at hk2;cases hk2
    obtain ⟨cs,ec,hcs⟩:=hcs
    refine ⟨⟨1+(cs.map (·.2)).sum,?_⟩,?_,?_⟩
    · rw [e,←ec]
      refine ⟨.node cs hp hk (by rw [←hl,←ec,aB]) (λi x k hx hk2=>(hcs i x k hx hk2).1) λi x hx=>?_,?_⟩
      · obtain ⟨k,hk2⟩:=hkl (ar.1 hx).1
        exact (hit i x k hx hk2).2.2.2
      · have hcl:cs.length=p.items.length:=by rw [←hl,←ec,aB]
        have hb:∀ c∈cs,c.2+1≤2*8^l:=λc hc=>by
         obtain ⟨j,hj⟩:=bW hc
         obtain ⟨x,hx⟩:∃ x,p.items[j]?=some x:=⟨_,ap (by have:=(ar.1 hj).1;omega)⟩
         exact (hcs j x c hx hj).2
        have hs:∀ cs:List (List PI×Nat),(∀ c∈cs,c.2+1≤2*8^l)→(cs.map (·.2)).sum+cs.length≤cs.length*(2*8^l):=by
         intro cs
         induction cs with
         |nil=>intro _;simp
         |cons a cs ih=>
          intro h
          have h1:=h a (by simp)
          have h2:=ih (λk hk=>h k (by simp [hk]))
          simp only [a9,List.sum_cons,aG,Nat.add_mul,Nat.one_mul]
          omega
        have h8:=hs cs hb
        have h9:=hR.items
        have h10:cs.length*(2*8^l)+(8-cs.length)*(2*8^l)=8*(2*8^l):=by rw [←Nat.add_mul];congr 1;omega
        have h11:(8-cs.length)≤(8-cs.length)*(2*8^l):=Nat.le_mul_of_pos_right _ (Nat.mul_pos (by decide) (Nat.pow_pos (by decide)))
        rw [Nat.pow_succ]
        omega
    · intro y hy
      rw [e,List.mem_flatten] at hy
      obtain ⟨k,hk2,hy⟩:=hy
      obtain ⟨j,hj⟩:=bW hk2
      obtain ⟨x,hx⟩:=hil (ar.1 hj).1
      exact (hit j x k hx hj).2.1 y hy
    · rw [e]
      have hb:∀ k∈ks,k.length≤8^(l+1):=by
       intro k hk2
       obtain ⟨j,hj⟩:=bW hk2
       obtain ⟨x,hx⟩:=hil (ar.1 hj).1
       exact (hit j x k hx hj).2.2.1
      have hsum:∀ ks:List (List PI),(∀ k∈ks,k.length≤8^(l+1))→ks.flatten.length≤ks.length*8^(l+1):=by
       intro ks
       induction ks with
       |nil=>intro _;simp
       |cons a ks ih=>
        intro h
        have h1:=h a (by simp)
        have h2:=ih (λk hk=>h k (by simp [hk]))
        simp only [List.flatten_cons,aq,aG,Nat.add_mul,Nat.one_mul]
        omega
      have h8:=hsum ks hb
      have h9:ks.length*8^(l+1)≤8*8^(l+1):=Nat.mul_le_mul_right _ (by rw [hl];exact hR.items)
      rw [Nat.pow_succ 8 (l+1)]
      omega
  · cases h
end Go.Proofs.YtchbedbmjiabgaaGreatDoor
namespace Go.Proofs.YtchbedbmjiabgaaGreatDoor
open Go.RowKit Go.Proofs.Tryz
def SmP (p:PP):Prop:=p.items.length≤1000∧p.data.length≤1000000∧∀ x∈p.items,x.key.length≤1000000∧x.value.length≤1000000
theorem nz:SmP cz:=⟨by decide,by decide,λx h=>by cases h⟩
theorem zPage (w:World):(zeroValue 193).run prog w= .ok (pgv cz none 0 none 0) w:=by kernel_rfl
def PgsOf (lo:Nat) (w:World) (f:Int→Option Value) (rd:Int→Option PP):Prop:=
 ∀ k,(rd k=none∧f k=none)∨∃ p ia ic da dc,rd k=some p∧f k=some (pgv p ia ic da dc)∧PgV lo w p ia ic da dc∧SmP p
theorem PgsOf.chg {F:Nat→Prop} {lo:Nat} {w w':World} {f:Int→Option Value} {rd:Int→Option PP} (h:PgsOf lo w f rd) (hc:Chg F w w') (hF:∀ k,F k→k<lo):PgsOf lo w' f rd:=by intro k;rcases h k with h|⟨p,ia,ic,da,dc,h1,h2,h3,h4⟩;exact .inl h;exact .inr ⟨p,ia,ic,da,dc,h1,h2,h3.chg hc hF,h4⟩
theorem PgsOf.below {lo:Nat} {w w':World} {f:Int→Option Value} {rd:Int→Option PP} (h:PgsOf lo w f rd) (hb:Below w.heap.size w w'):PgsOf lo w' f rd:=h.chg (F:=λ_=>False) (ac hb) (λ_ f=>f.elim)
def rowV (gp gm:Nat):Obj:= .cells #[.pointer (some ⟨gp,0,none⟩),.map (some gm),.slice none 0 0,.int .i64 0] 102
def IsVault (lo:Nat) (w:World) (v:Nat) (cs:List Int) (rd:Int→Option PP):Prop:=
 ∃ gp gm N f,w.heap[v]?=some (rowV gp gm)∧IsPool lo w gp cs∧MpI w gm N f∧PgsOf lo w f rd∧lo≤v∧lo≤gm∧cs.length≤65536
theorem IsVault.chg {F:Nat→Prop} {lo v:Nat} {w w':World} {cs:List Int} {rd:Int→Option PP} (h:IsVault lo w v cs rd) (hc:Chg F w w') (hF:∀ k,F k→k<lo):IsVault lo w' v cs rd:=by obtain ⟨gp,gm,N,f,h1,h2,h3,h4,h5,h6,h7⟩:=h;exact ⟨gp,gm,N,f,(hc.block v (rltT h1) (λe=>by have:=hF _ e;omega)).trans h1,h2.chg hc hF,h3.chg hc (λe=>by have:=hF _ e;omega),h4.chg hc hF,h5,h6,h7⟩
theorem IsVault.below {lo v:Nat} {w w':World} {cs:List Int} {rd:Int→Option PP} (h:IsVault lo w v cs rd) (hb:Below w.heap.size w w'):IsVault lo w' v cs rd:=h.chg (F:=λ_=>False) (ac hb) (λ_ f=>f.elim)
def rdr (cs:List Int) (rd:Int→Option PP) (k:Int):Option PP:=if fQ cs k=0 then none else some ((rd k).getD cz)
def VRdP (o:Option PP) (w:World) (x:Ending) (w':World):Prop:=
 ∃ ia ic da dc,x= .returned (.tuple #[pgv (o.getD cz) ia ic da dc,.int .i64 (if o.isSome=true then 0 else 15)])∧PgV w.heap.size w' (o.getD cz) ia ic da dc∧SmP (o.getD cz)∧Below w.heap.size w w'
theorem vrdP_no {w w':World} (hb:Below w.heap.size w w'):VRdP none w (.returned (.tuple #[.agg #[.int .i64 0,.int .i64 0,.slice none 0 0,.slice none 0 0,.int .i64 0],.int .i64 15])) w':=
 ⟨none,0,none,0,rfl,nC,nz,hb⟩
theorem zL {w w1 w2 w3:World} {p:PP} {ia da:Option Addr} {ic dc n dl:Nat} (hn:p.items.length=n) (hd:p.data.length=dl) (hs:SmP p) (h1:Below w.heap.size w w1) (hp:PgV w1.heap.size w2 p ia ic da dc) (h2:Below w1.heap.size w1 w2) (hlt:w.heap.size<w1.heap.size) (hc:Chg (λk=>k=w.heap.size) w2 w3):
  VRdP (some p) w (.returned (.tuple #[.agg #[.int .i64 p.kind,.int .i64 p.level,.slice ia n ic,.slice da dl dc,.int .i64 p.next],.int .i64 0])) w3:=by subst hn hd;exact ⟨ia,ic,da,dc,rfl,(hp.chg hc (λk e=>by omega)).low2 h1.size,hs,(h1.trans (h2.mono h1.size)).trans (hc.below (ao h1.size h2.size) (λk e=>by omega))⟩
theorem iE (k:Int) {v lo:Nat} {cs:List Int} {rd:Int→Option PP} {w:World} (hkw:(Lit.int .i64 k).wf=true) (h:IsVault lo w v cs rd):
  Calls prog 92 #[.pointer (some ⟨v,0,none⟩),.int .i64 k] w (VRdP (rdr cs rd k) w):=by
   obtain ⟨gp,gm,N,f,h1,h2,h3,h4,h5,h6,h7⟩:=h;have hA:=bY w (.cells #[.int .i64 0,.int .i64 0,.slice none 0 0,.slice none 0 0,.int .i64 0] 193);have hR:=az w (.cells #[.int .i64 0,.int .i64 0,.slice none 0 0,.slice none 0 0,.int .i64 0] 193);have DW:=Hd (pN k h7 (h2.below hA));have hv:=(hA.block v (rltT h1)).trans h1;have HV:=Hd hv;have HM:=Hd (h3.chg (F:=λ_=>False) (ac hA) (λf=>f));have HP:=Hd (h4.below hA);have HA:=Hd hA;have HR:=Hd hR;have DI:=Hd (rltT hR);have c0:(w.alloc (.cells #[.int .i64 0,.int .i64 0,.slice none 0 0,.slice none 0 0,.int .i64 0] 193)).cell? ⟨v,0,none⟩=some (.pointer (some ⟨gp,0,none⟩)):=bd _ _ 0 _ _ _ hv;have c1:(w.alloc (.cells #[.int .i64 0,.int .i64 0,.slice none 0 0,.slice none 0 0,.int .i64 0] 193)).cell? ⟨v,1,none⟩=some (.map (some gm)):=bd _ _ 1 _ _ _ hv;obtain ⟨r0,r1,r2,r3,r4,rf⟩:=cm hR;have g0:=rf 0;have g1:=rf 1;have g2:=rf 2;have g3:=rf 3;have g4:=rf 4;clear h1 h2 h3 h4 h5 h6 h7 hA hR hv rf;unfold rdr;by_cases h0:fQ cs k=0
   ·rw [bh h0];rw [h0] at DW;go_enter func92,ntmps92;go_wp2_with fail;generalize w.alloc (.cells #[.int .i64 0,.int .i64 0,.slice none 0 0,.slice none 0 0,.int .i64 0] 193)=W at*;refine DW.out.mono ?_;rintro _ w2 ⟨rfl,rfl⟩;go_wp2_with fail;refine bodyPost_ret (v:= .tuple #[.agg #[.int .i64 0,.int .i64 0,.slice none 0 0,.slice none 0 0,.int .i64 0],.int .i64 15]) (by simp [results,results92,go_sem,r0,r1,r2,r3,r4]) rfl ?_;exact vrdP_no (HA.out.trans ((gE W w.heap.size _ _ _ _ _).below HA.out.size (λj (e:j=_)=>by omega)))
   ·rw [bg h0];obtain ⟨p,hp⟩:∃ p,(rd k).getD cz=p:=⟨_,rfl⟩;(obtain ⟨u,hu,ia,ic,da,dc,hue,hPV,hSM⟩:∃ u,(f k).getD (pgv cz none 0 none 0)=u∧∃ ia ic da dc,u=pgv p ia ic da dc∧PgV lo (w.alloc (.cells #[.int .i64 0,.int .i64 0,.slice none 0 0,.slice none 0 0,.int .i64 0] 193)) p ia ic da dc∧SmP p:=by rcases HP.out k with ⟨e1,e2⟩|⟨q,ia,ic,da,dc,e1,e2,e3,e4⟩;rw [e1] at hp;obtain rfl:cz=p:=hp;rw [e2];exact ⟨_,rfl,none,0,none,0,rfl,nC,nz⟩;rw [e1] at hp;obtain rfl:q=p:=hp;rw [e2];exact ⟨_,rfl,ia,ic,da,dc,rfl,e3,e4⟩);rw [hp];subst hue;have FZ:=Hd (oo p hPV hSM.1 hSM.2.1 hSM.2.2);have HU:=Hd hu;have D4:=Hd hSM;clear hp hu hPV hSM HP;unfold pgv at FZ HU;generalize hn:p.items.length=n at*;generalize hd:p.data.length=dl at*;have HN:=Hd hn;have HD:=Hd hd;clear hn hd;go_enter func92,ntmps92;go_wp2_with fail;generalize w.alloc (.cells #[.int .i64 0,.int .i64 0,.slice none 0 0,.slice none 0 0,.int .i64 0] 193)=W at*;refine DW.out.mono ?_;rintro _ w2 ⟨rfl,rfl⟩;go_wp2_with (at_lookup;refine lg rfl (.tmp 17) (.tmp 18) 99 193 rfl underlying99 (zPage _) rfl HM.out k rfl hkw HU.out ?_);refine FZ.out.mono ?_;rintro _ w3 ⟨ia2,ic2,da2,dc2,rfl,hpv,hb⟩;unfold pgv;rw [HN.out,HD.out];have hr:=(hb.block _ DI.out).trans HR.out;obtain ⟨r0,r1,r2,r3,r4,rf⟩:=cm hr;have g0:=rf 0;have g1:=rf 1;have g2:=rf 2;have g3:=rf 3;have g4:=rf 4;have HPV:=Hd hpv;have HB:=Hd hb;clear hr rf hpv hb;go_wp2_with fail;refine bodyPost_ret (v:= .tuple #[.agg #[.int .i64 p.kind,.int .i64 p.level,.slice ia2 n ic2,.slice da2 dl dc2,.int .i64 p.next],.int .i64 0]) (by simp [results,results92,go_sem,r0,r1,r2,r3,r4]) rfl ?_;exact zL HN.out HD.out D4.out HA.out HPV.out HB.out DI.out (gE w3 w.heap.size _ _ _ _ _)
def yY (ok:Bool) (er:Int) (cs:List Int) (rd:Int→Option PP) (lo:Nat) (w:World) (e:Ending) (w':World):Prop:=
 Below w.heap.size w w'∧if ok=true then ∃ g,e= .returned (.tuple #[.pointer (some ⟨g,0,none⟩),.int .i64 0])∧IsVault lo w' g cs rd else e= .returned (.tuple #[.pointer none,.int .i64 er])
theorem sX {lo gp:Nat} {cs:List Int} {w:World} (hp:IsPool lo w gp cs) (hlo:lo≤w.heap.size) (hn:cs.length≤65536):IsVault lo ((w.alloc (.map #[] 0)).alloc (rowV gp w.heap.size)) (w.heap.size+1) cs (λ_=>none):=by have b1:=bY w (.map #[] 0);have b2:=bY (w.alloc (.map #[] 0)) (rowV gp w.heap.size);have hr:=az (w.alloc (.map #[] 0)) (rowV gp w.heap.size);rw [aX] at hr;exact ⟨gp,w.heap.size,0,λ_=>none,hr,(hp.below b1).below b2,(MpI.made w).chg (F:=λ_=>False) (ac b2) (λf=>f),λk=> .inl ⟨rfl,rfl⟩,by omega,hlo,hn⟩
theorem zM (n:Nat) (refs:Int) (lo:Nat) {w:World} (hn:n≤65536) (hlo:lo≤w.heap.size):Calls prog 33 #[.int .i64 (n:Int),.int .i64 refs] w (yY (eK n refs) 1 (List.replicate n 0) (λ_=>none) lo w):=by
 have DG:=Hd (sF n refs lo (w:=w) (by omega) hlo);have B7:=Hd hlo;clear hlo;have hmm:=@run_makeMap prog;cases hok:eK n refs
 ·rw [hok] at DG;go_enter func33,ntmps33;go_wp2_with fail;refine DG.out.mono ?_;rintro _ w2 ⟨hb,e⟩;rw [bg (by decide)] at e;subst e;have HB:=Hd hb;clear hb;go_wp2_with fail;go_ret2;exact ⟨HB.out,rfl⟩
 ·rw [hok] at DG;go_enter func33,ntmps33;go_wp2_with fail;refine DG.out.mono ?_;rintro _ w2 ⟨hb,e⟩;rw [bh rfl] at e;obtain ⟨g,rfl,hp⟩:=e;have HB:=Hd hb;have HV:=Hd (sX hp (ao B7.out hb.size) (by simpa using hn));have Bd:=Hd (hb.trans (((bY w2 (.map #[] 0)).trans ((bY (w2.alloc (.map #[] 0)) (rowV g w2.heap.size)).mono (by simp))).mono hb.size));clear hb hp;unfold rowV at HV Bd;go_wp2_with fail;go_ret2;exact ⟨Bd.out,_,rfl,HV.out⟩
end Go.Proofs.YtchbedbmjiabgaaGreatDoor
