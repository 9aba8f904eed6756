/- TopFormat, part 23 of the proof: TLookP TLookD SupE. No condition. -/
import Derived.Test.YtchbedbmjiabgaaGreatDoorZ22
set_option linter.all false
set_option maxHeartbeats 16000000
set_option maxRecDepth 100000
namespace Go.Proofs.YtchbedbmjiabgaaGreatDoor
open Go.RowKit Go.Proofs.Tryz
def kF (img:Int→List UInt8) (gen:Int) (P:Nat) (k:Nat):Option PP:=match pdec ((k:Int)+1) (img (((2+2*Wi.Su.bankN P:Nat):Int)+k)) with
 |(er,p,g)=>if er=0∧(g:Int)≤gen then some p else none
def PgeP (o:Option PP) (w:World) (e:Ending) (w':World):Prop:=
 Below w.heap.size w w'∧match o with
 |some p=>∃ ia ic da dc,e= .returned (.tuple #[pgv p ia ic da dc,.nilIface])∧NewPg w.heap.size w' p ia ic da dc
 |none=>∃ er,e= .returned (.tuple #[pgv cz none 0 none 0,er])∧IsErr w' er
theorem wh {w w':World} {er:Value} (hb:Below w.heap.size w w') (h:IsErr w' er):PgeP none w (.returned (.tuple #[.agg #[.int .i64 0,.int .i64 0,.slice none 0 0,.slice none 0 0,.int .i64 0],er])) w':=⟨hb,er,rfl,h⟩
theorem NewPg.low2 {lo l2:Nat} {w:World} {p:PP} {ia:Option Addr} {ic:Nat} {da:Option Addr} {dc:Nat} (h:NewPg lo w p ia ic da dc) (hl:l2≤lo):NewPg l2 w p ia ic da dc:=by obtain ⟨zs,h1,h2,h3,h4,h5⟩:=h;exact ⟨zs,h1,h2.low hl,h3,λk e=>ao hl (h4 k e),h5⟩
section
variable {w:World} {l g n:Nat} {img:Int→List UInt8} {s:Wi.Su.SP} {ra:Option Addr} {rc P:Nat}
theorem xU (k:Nat) (h:LkAt w l g n img s ra rc P) (hk:k<P):Calls prog 84 #[.pointer (some ⟨l,0,none⟩),.int .i64 ((k:Int)+1)] w (PgeP (kF img s.gen P k) w):=by
 obtain ⟨b1,b2,b3,b4,b5⟩:=k6 h;have Gi:=Hd h;obtain ⟨fi,hfi⟩:∃ fi:Int,((2+2*Wi.Su.bankN P:Nat):Int)=fi:=⟨_,rfl⟩;have Hh:=Hd λw'=>vG (P:Int) (Wi.Su.bankN P:Int) fi ((k:Int)+1) (by omega) (by omega) w';rw [bh (show 1≤(k:Int)+1∧(k:Int)+1≤(P:Int) by omega),show decide (1≤(k:Int)+1∧(k:Int)+1≤(P:Int))=true from bp (by omega),show fi+((k:Int)+1)-1=fi+k by omega] at Hh;have CU:=Hd λw' (hb:Below w.heap.size w w')=>n4 (fi+k) (h.below hb) (by omega) (by omega);have DJ:=Hd (h.dk.len (i:=fi+k) (by omega) (by omega));have BW:=Hd (show kF img s.gen P k=match pdec ((k:Int)+1) (img (fi+k)) with|(er,p,g)=>if er=0∧(g:Int)≤s.gen then some p else none from by rw [←hfi];rfl);rw [BW.out];generalize img (fi+k)=bs at*;have EO:=Hd λa c w' (hb:OB w' a c bs)=>sI ((k:Int)+1) a c bs w' hb.bts hb.cap.1;rw [DJ.out] at EO;obtain ⟨⟨er,p,gg⟩,hr⟩:∃ r,pdec ((k:Int)+1) bs=r:=⟨_,rfl⟩;rw [hr] at EO⊢;have BP:=Hd λw' (hb:Below w.heap.size w w')=>jF (h.below hb).row;rw [hfi] at BP;obtain ⟨gn,hgn⟩:∃ gn,s.gen=gn:=⟨_,rfl⟩;rw [hgn] at BP⊢;have HGN:=Hd h.gen;have hk1:IntKind.i64.wrap ((k:Int)+1)=(k:Int)+1:=bD _ (by omega);obtain ⟨c0,c1,c2,c3,c4,c5⟩:=BP.out w (aA _ w);clear h hr hgn BW b1 b2 b3 b4 b5 hfi hk c0 c1 c2 c3 c4 c5;simp only;by_cases he:er=0
 ·subst he;by_cases hg:(gg:Int)≤gn
  ·rw [bh ⟨rfl,hg⟩];go_enter func84,ntmps84
   go_wp2_with (
    refine b9 rfl rfl ?_
    intro w1 hR hA
    have Br:=Hd hR
    have Ce:=Hd hA
    obtain ⟨c0,c1,c2,c3,c4,c5⟩:=BP.out w1 hA
    clear hR hA)
   refine (Hh.out _).mono ?_;rintro _ w2 ⟨rfl,hb2⟩;have Bd:=Hd (Ce.out.trans (hb2.mono Ce.out.size));have BC:=Hd ((hb2.block _ (rltT Br.out)).trans Br.out);clear hb2 c0 c1 c2 c3 c4 c5;go_wp2_with fail;refine (CU.out _ Bd.out).mono ?_;rintro _ w3 ⟨a,c,rfl,hO,ha,hb3⟩;have Bi:=Hd (Bd.out.trans (hb3.mono Bd.out.size));have Bn:=Hd ((hb3.block _ (rltT BC.out)).trans BC.out);have HDD:=Hd (EO.out a c w3 hO);clear hO ha hb3;go_wp2_with fail;refine HDD.out.mono ?_;rintro _ w4 ⟨ia,ic,da,dc,rfl,hp4,hb4⟩;have Be:=Hd (Bi.out.trans (hb4.mono Bi.out.size));have Bp:=Hd ((hb4.block _ (rltT Bn.out)).trans Bn.out);have Fe:=Hd hp4;clear hp4 hb4;simp only;unfold pgv;obtain ⟨qk,hqk⟩:∃ x,p.kind=x:=⟨_,rfl⟩;obtain ⟨ql,hql⟩:∃ x,p.level=x:=⟨_,rfl⟩;obtain ⟨il,hil⟩:∃ x,p.items.length=x:=⟨_,rfl⟩;obtain ⟨dl,hdl⟩:∃ x,p.data.length=x:=⟨_,rfl⟩;obtain ⟨px,hpx⟩:∃ x,p.next=x:=⟨_,rfl⟩;have HQ:=Hd (show p.kind=qk∧p.level=ql∧p.items.length=il∧p.data.length=dl∧p.next=px from ⟨hqk,hql,hil,hdl,hpx⟩);rw [hqk,hql,hil,hdl,hpx];clear hqk hql hil hdl hpx;go_wp2_with (first|(refine b9 rfl rfl ?_;intro w5 hR hA;have Bk:=Hd hR;have Bl:=Hd hA;clear hR hA)|(refine ce rfl (.tmp 10) (.tmp 43) rfl w4.heap.size (by rfl) _ _ _ _ _ (.int .i64 qk) (.int .i64 ql) (.slice ia il ic) (.slice da dl dc) (.int .i64 px) (by rfl) Bk.out ⟨rfl,rfl,rfl,rfl,rfl⟩ ?_;intro w6 hR hC;have Bm:=Hd (aa Bl.out hC);have Bg:=Hd (Be.out.trans (Bm.out.mono Be.out.size));have Bs:=Hd ((Bm.out.block _ (rltT Bp.out)).trans Bp.out);obtain ⟨s0,s1,s2,s3,s4, -⟩:=cm hR;obtain ⟨d0,d1,d2,d3,d4,d5⟩:=BP.out w6 Bg.out;clear hR hC)|(refine ce rfl (.tmp 4) (.tmp 66) rfl w.heap.size (by rfl) _ _ _ _ _ (.int .i64 qk) (.int .i64 ql) (.slice ia il ic) (.slice da dl dc) (.int .i64 px) (by rfl) Bs.out ⟨rfl,rfl,rfl,rfl,rfl⟩ ?_;intro w7 hR hC;have CK:=Hd hC;obtain ⟨z0,z1,z2,z3,z4, -⟩:=cm hR;clear hR hC s0 s1 s2 s3 s4 d0 d1 d2 d3 d4 d5));refine bodyPost_ret (v:= .tuple #[.agg #[.int .i64 qk,.int .i64 ql,.slice ia il ic,.slice da dl dc,.int .i64 px],.nilIface]) (by simp [results,results84,go_sem,z0,z1,z2,z3,z4]) rfl ?_;refine ⟨Bg.out.trans (CK.out.below Bg.out.size (λk e=>aS e.symm)),ia,ic,da,dc,by unfold pgv;rw [HQ.out.1,HQ.out.2.1,HQ.out.2.2.1,HQ.out.2.2.2.1,HQ.out.2.2.2.2],?_⟩;have hlt:=rltT Br.out;exact ((Fe.out.chg (F:=λ_=>False) (ac Bm.out) (λ_ f=>f.elim)).chg CK.out (λk e=>by have:=rltT Bn.out;omega)).low2 Bi.out.size
  ·rw [bg (λh=>hg h.2)];go_enter func84,ntmps84
   go_wp2_with (
    refine b9 rfl rfl ?_
    intro w1 hR hA
    have Br:=Hd hR
    have Ce:=Hd hA
    obtain ⟨c0,c1,c2,c3,c4,c5⟩:=BP.out w1 hA
    clear hR hA)
   refine (Hh.out _).mono ?_;rintro _ w2 ⟨rfl,hb2⟩;have Bd:=Hd (Ce.out.trans (hb2.mono Ce.out.size));have BC:=Hd ((hb2.block _ (rltT Br.out)).trans Br.out);clear hb2 c0 c1 c2 c3 c4 c5;go_wp2_with fail;refine (CU.out _ Bd.out).mono ?_;rintro _ w3 ⟨a,c,rfl,hO,ha,hb3⟩;have Bi:=Hd (Bd.out.trans (hb3.mono Bd.out.size));have Bn:=Hd ((hb3.block _ (rltT BC.out)).trans BC.out);have HDD:=Hd (EO.out a c w3 hO);clear hO ha hb3;go_wp2_with fail;refine HDD.out.mono ?_;rintro _ w4 ⟨ia,ic,da,dc,rfl,hp4,hb4⟩;have Be:=Hd (Bi.out.trans (hb4.mono Bi.out.size));have Bp:=Hd ((hb4.block _ (rltT Bn.out)).trans Bn.out);have Fe:=Hd hp4;clear hp4 hb4;simp only;unfold pgv;obtain ⟨qk,hqk⟩:∃ x,p.kind=x:=⟨_,rfl⟩;obtain ⟨ql,hql⟩:∃ x,p.level=x:=⟨_,rfl⟩;obtain ⟨il,hil⟩:∃ x,p.items.length=x:=⟨_,rfl⟩;obtain ⟨dl,hdl⟩:∃ x,p.data.length=x:=⟨_,rfl⟩;obtain ⟨px,hpx⟩:∃ x,p.next=x:=⟨_,rfl⟩;have HQ:=Hd (show p.kind=qk∧p.level=ql∧p.items.length=il∧p.data.length=dl∧p.next=px from ⟨hqk,hql,hil,hdl,hpx⟩);rw [hqk,hql,hil,hdl,hpx];clear hqk hql hil hdl hpx;go_wp2_with (first|(refine b9 rfl rfl ?_;intro w5 hR hA;have Bk:=Hd hR;have Bl:=Hd hA;clear hR hA)|(refine ce rfl (.tmp 10) (.tmp 43) rfl w4.heap.size (by rfl) _ _ _ _ _ (.int .i64 qk) (.int .i64 ql) (.slice ia il ic) (.slice da dl dc) (.int .i64 px) (by rfl) Bk.out ⟨rfl,rfl,rfl,rfl,rfl⟩ ?_;intro w6 hR hC;have Bm:=Hd (aa Bl.out hC);have Bg:=Hd (Be.out.trans (Bm.out.mono Be.out.size));have Bs:=Hd ((Bm.out.block _ (rltT Bp.out)).trans Bp.out);obtain ⟨s0,s1,s2,s3,s4, -⟩:=cm hR;obtain ⟨d0,d1,d2,d3,d4,d5⟩:=BP.out w6 Bg.out;clear hR hC)|(refine ce rfl (.tmp 4) (.tmp 59) rfl w.heap.size (by rfl) _ _ _ _ _ (.int .i64 0) (.int .i64 0) (.slice none 0 0) (.slice none 0 0) (.int .i64 0) (by rfl) (((bY w6 (.cells #[.int .i64 (fi+k),.iface 28 (.int .i64 25)] 238)).block _ (rltT Bs.out)).trans Bs.out) ⟨rfl,rfl,rfl,rfl,rfl⟩ ?_;intro w7 hR hC;have CK:=Hd hC;obtain ⟨z0,z1,z2,z3,z4, -⟩:=cm hR;clear hR hC s0 s1 s2 s3 s4 d0 d1 d2 d3 d4 d5));refine bodyPost_ret (v:= .tuple #[.agg #[.int .i64 0,.int .i64 0,.slice none 0 0,.slice none 0 0,.int .i64 0],.iface 236 (.pointer (some ⟨w6.heap.size,0,none⟩))]) (by simp [results,results84,go_sem,z0,z1,z2,z3,z4]) rfl ?_;have B0:=bY w6 (.cells #[.int .i64 (fi+k),.iface 28 (.int .i64 25)] 238);have E5:=az w6 (.cells #[.int .i64 (fi+k),.iface 28 (.int .i64 25)] 238);have hlt:=rltT Bs.out;exact wh ((Bg.out.trans (B0.mono Bg.out.size)).trans (CK.out.below (ao Bg.out.size B0.size) (λk e=>aS e.symm))) (.inr ⟨w6.heap.size,fi+k,25,rfl,(CK.out.block _ (rltT E5) (by omega)).trans E5⟩)
 ·rw [bg (λh=>he h.1)];go_enter func84,ntmps84
  go_wp2_with (
   refine b9 rfl rfl ?_
   intro w1 hR hA
   have Br:=Hd hR
   have Ce:=Hd hA
   obtain ⟨c0,c1,c2,c3,c4,c5⟩:=BP.out w1 hA
   clear hR hA)
  refine (Hh.out _).mono ?_;rintro _ w2 ⟨rfl,hb2⟩;have Bd:=Hd (Ce.out.trans (hb2.mono Ce.out.size));have BC:=Hd ((hb2.block _ (rltT Br.out)).trans Br.out);clear hb2 c0 c1 c2 c3 c4 c5;go_wp2_with fail;refine (CU.out _ Bd.out).mono ?_;rintro _ w3 ⟨a,c,rfl,hO,ha,hb3⟩;have Bi:=Hd (Bd.out.trans (hb3.mono Bd.out.size));have Bn:=Hd ((hb3.block _ (rltT BC.out)).trans BC.out);have HDD:=Hd (EO.out a c w3 hO);clear hO ha hb3;go_wp2_with fail;refine HDD.out.mono ?_;rintro _ w4 ⟨ia,ic,da,dc,rfl,hp4,hb4⟩;have Be:=Hd (Bi.out.trans (hb4.mono Bi.out.size));have Bp:=Hd ((hb4.block _ (rltT Bn.out)).trans Bn.out);have Fe:=Hd hp4;clear hp4 hb4;simp only;unfold pgv;obtain ⟨qk,hqk⟩:∃ x,p.kind=x:=⟨_,rfl⟩;obtain ⟨ql,hql⟩:∃ x,p.level=x:=⟨_,rfl⟩;obtain ⟨il,hil⟩:∃ x,p.items.length=x:=⟨_,rfl⟩;obtain ⟨dl,hdl⟩:∃ x,p.data.length=x:=⟨_,rfl⟩;obtain ⟨px,hpx⟩:∃ x,p.next=x:=⟨_,rfl⟩;have HQ:=Hd (show p.kind=qk∧p.level=ql∧p.items.length=il∧p.data.length=dl∧p.next=px from ⟨hqk,hql,hil,hdl,hpx⟩);rw [hqk,hql,hil,hdl,hpx];clear hqk hql hil hdl hpx;go_wp2_with (first|(refine b9 rfl rfl ?_;intro w5 hR hA;have Bk:=Hd hR;have Bl:=Hd hA;clear hR hA)|(refine ce rfl (.tmp 10) (.tmp 43) rfl w4.heap.size (by rfl) _ _ _ _ _ (.int .i64 qk) (.int .i64 ql) (.slice ia il ic) (.slice da dl dc) (.int .i64 px) (by rfl) Bk.out ⟨rfl,rfl,rfl,rfl,rfl⟩ ?_;intro w6 hR hC;have Bm:=Hd (aa Bl.out hC);have Bg:=Hd (Be.out.trans (Bm.out.mono Be.out.size));have Bs:=Hd ((Bm.out.block _ (rltT Bp.out)).trans Bp.out);obtain ⟨s0,s1,s2,s3,s4, -⟩:=cm hR;obtain ⟨d0,d1,d2,d3,d4,d5⟩:=BP.out w6 Bg.out;clear hR hC)|(refine ce rfl (.tmp 4) (.tmp 59) rfl w.heap.size (by rfl) _ _ _ _ _ (.int .i64 0) (.int .i64 0) (.slice none 0 0) (.slice none 0 0) (.int .i64 0) (by rfl) (((bY w6 (.cells #[.int .i64 (fi+k),.iface 28 (.int .i64 er)] 238)).block _ (rltT Bs.out)).trans Bs.out) ⟨rfl,rfl,rfl,rfl,rfl⟩ ?_;intro w7 hR hC;have CK:=Hd hC;obtain ⟨z0,z1,z2,z3,z4, -⟩:=cm hR;clear hR hC s0 s1 s2 s3 s4 d0 d1 d2 d3 d4 d5));refine bodyPost_ret (v:= .tuple #[.agg #[.int .i64 0,.int .i64 0,.slice none 0 0,.slice none 0 0,.int .i64 0],.iface 236 (.pointer (some ⟨w6.heap.size,0,none⟩))]) (by simp [results,results84,go_sem,z0,z1,z2,z3,z4]) rfl ?_;have B0:=bY w6 (.cells #[.int .i64 (fi+k),.iface 28 (.int .i64 er)] 238);have E5:=az w6 (.cells #[.int .i64 (fi+k),.iface 28 (.int .i64 er)] 238);have hlt:=rltT Bs.out;exact wh ((Bg.out.trans (B0.mono Bg.out.size)).trans (CK.out.below (ao Bg.out.size B0.size) (λk e=>aS e.symm))) (.inr ⟨w6.heap.size,fi+k,er,rfl,(CK.out.block _ (rltT E5) (by omega)).trans E5⟩)
end
theorem hH {E E':Elt} {w:World} {a b:Option Addr} {c d n m:Nat} {cs ds:List Value} (h:OR E w a c n cs) (h':OR E' w b d m ds) (ne:E.e≠E'.e):∀ k,blk a=some k→blk b≠some k:=by intro k e e2;rcases h.form.2 with ⟨rfl, -⟩|⟨g,rfl, -, -, -,rest,h5, -⟩;cases e;cases e;rcases h'.form.2 with ⟨rfl, -⟩|⟨g',rfl, -, -, -,rest',h5', -⟩;cases e2;cases e2;rw [h5] at h5';simp only [bK,Obj.cells.injEq] at h5';exact ne h5'.2.1
theorem NewPg.keepT {lo:Nat} {w w':World} {p:PP} {ia:Option Addr} {ic:Nat} {da:Option Addr} {dc:Nat} (h:NewPg lo w p ia ic da dc) {pa:Option Addr} {pc m:Nat} {cs:List Value} (ho:OR eNp w pa pc m cs) (hc:Chg (λk=>blk pa=some k) w w'):NewPg lo w' p ia ic da dc:=by obtain ⟨zs,hz,hI,hO,hd,hn⟩:=h;refine ⟨zs,hz,(hI.chg hc (λk e f=>hH hI.own ho (by decide) k e f) (λa ha k e f=>?_)).hi hc.size (am _),aj hO hc (λk e f=>hH hO ho (by decide) k e f),hd,hn⟩;unfold adrs at ha;obtain ⟨z,hz2,ha⟩:=List.mem_flatMap.1 ha;obtain ⟨h1,h2⟩:=hI.obs z hz2;simp only [bU,List.not_mem_nil,or_false] at ha;rcases ha with rfl|rfl;exact hH h1 ho (by decide) k e f;exact hH h2 ho (by decide) k e f
def d8 (img:Int→List UInt8) (gen:Int) (P:Nat) (base:Int):Nat→Option (List Int)
 |0=>some []
 |j+1=>match d8 img gen P base j with
  |none=>none
  |some cs=>match Wi.Ba.bblock gen P j (img (base+j)) with
   |(er,xs)=>if er=0 then some (cs++Wi.Ba.ints xs) else none
theorem tD {img:Int→List UInt8} {gen:Int} {P:Nat} {base:Int} {j:Nat} (h:d8 img gen P base j=none):∀ {k:Nat},j≤k→d8 img gen P base k=none:=by
 intro k hk;induction k with
 |zero=>have:j=0:=by omega
        subst this;exact h
 |succ k ih=>
  rcases Nat.lt_or_ge j (k+1) with h1|h1;simp only [d8,ih (by omega)]
  ·(have:j=k+1:=by omega);subst this;exact h
theorem vI {gen:Int} {P j:Nat} {bs:List UInt8} {xs:List Nat} (h:Wi.Ba.bblock gen P j bs=(0,xs)):xs.length=Wi.Ba.inBlk P j:=by unfold Wi.Ba.bblock at h;split at h;unfold Wi.Ba.bread at h;split at h;cases h;split at h;cases h;split at h;cases h;split at h;cases h;split at h;cases h;simp only [Prod.mk.injEq,true_and] at h;rw [←h,Wi.Ba.numsAt_length];simp;cases h
theorem fH {img:Int→List UInt8} {gen:Int} {P:Nat} {base:Int}:∀ {j:Nat} {cs:List Int},d8 img gen P base j=some cs→cs.length=min P (240*j)
 |0,cs,h=>by simp only [d8,bK] at h;subst h;simp
 |j+1,cs,h=>by
  simp only [d8] at h;split at h;cases h
  ·rename_i c2 h2;have h3:=fH h2;cases hb:Wi.Ba.bblock gen P j (img (base+j)) with
   |mk er xs=>
    rw [hb] at h;simp only at h;split at h
    ·rename_i he;subst he;have h4:=vI hb;cases h;rw [aq,Wi.Ba.ints_length,h3,h4];unfold Wi.Ba.inBlk;omega
    cases h
theorem ow {img:Int→List UInt8} {gen:Int} {P:Nat} {base:Int}:∀ {j:Nat} {cs:List Int},d8 img gen P base j=some cs→∀ c∈cs,0≤c
 |0,cs,h=>by simp only [d8,bK] at h;subst h;simp
 |j+1,cs,h=>by
  simp only [d8] at h;split at h;cases h
  ·rename_i c2 h2;have h3:=ow h2;cases hb:Wi.Ba.bblock gen P j (img (base+j)) with
   |mk er xs=>rw [hb] at h;simp only at h;split at h;cases h;intro c hc;rcases bE.1 hc with h|h;exact h3 c h;obtain ⟨x, -,rfl⟩:=bV.1 h;omega;cases h
def dx (img:Int→List UInt8) (gen:Int) (P:Nat) (cs:List Int):Nat→Option (List (Int×PP))
 |0=>some []
 |j+1=>match dx img gen P cs j with
  |none=>none
  |some es=>if cs.getD j 0=0 then some es else match kF img gen P j with
   |none=>none
   |some p=>some (es++[((j:Int)+1,p)])
theorem qD {img:Int→List UInt8} {gen:Int} {P:Nat} {cs:List Int} {j:Nat} (h:dx img gen P cs j=none):∀ {k:Nat},j≤k→dx img gen P cs k=none:=by
 intro k hk;induction k with
 |zero=>have:j=0:=by omega
        subst this;exact h
 |succ k ih=>
  rcases Nat.lt_or_ge j (k+1) with h1|h1;simp only [dx,ih (by omega)]
  ·(have:j=k+1:=by omega);subst this;exact h
theorem mA {img:Int→List UInt8} {gen:Int} {P k:Nat} {p:PP} (h:kF img gen P k=some p):dp p=0:=by
 unfold kF at h;split at h;rename_i er q g he;split at h
 ·rename_i h2;obtain ⟨rfl, -⟩:=h2;cases h;exact (Ak he).2.2.1
 cases h
theorem kr {img:Int→List UInt8} {gen:Int} {P:Nat} {cs:List Int}:∀ {j:Nat} {es:List (Int×PP)},dx img gen P cs j=some es→es.length≤j∧((cs.take j).filter (λc=>decide (c≠0))).length≤es.length∧∀ (i:Nat) (k:Int) (p:PP),es[i]?=some (k,p)→dp p=0∧1≤k∧k≤(j:Int)∧cs.getD (k-1).toNat 0≠0∧∀ (i2:Nat) (q:PP),i2<i→es[i2]?≠some (k,q)
 |0,es,h=>by
  simp only [dx,bK] at h
  subst h
  simp
 |j+1,es,h=>by
  simp only [dx] at h
  split at h
  · cases h
  · rename_i e2 h2
    obtain ⟨i1,i2,i3⟩:=kr h2
    have hf:((cs.take (j+1)).filter (λc=>decide (c≠0))).length=((cs.take j).filter (λc=>decide (c≠0))).length+if cs.getD j 0≠0 then 1 else 0:=by
     rw [bm,List.filter_append,aq]
     congr 1
     rw [au]
     cases cs[j]? with
     |none=>simp
     |some c=>by_cases hc:c=0<;>simp [hc]
    split at h
    · rename_i hc
      cases h
      refine ⟨by omega,?_,λi k p hi=>?_⟩
      · rw [hf,bg (by simpa using hc)];omega
      · obtain ⟨a1,a2,a3,a4,a5⟩:=i3 i k p hi
        exact ⟨a1,a2,by omega,a4,a5⟩
    · rename_i hc
      cases hp:kF img gen P j with
      |none=>rw [hp] at h;cases h
      |some q=>
       rw [hp] at h
       simp only [bK] at h
       subst h
       refine ⟨by rw [aq,bM];omega,?_,λi k p hi=>?_⟩
       · rw [hf,bh hc,aq,bM];omega
       · rcases Nat.lt_or_ge i e2.length with hl|hl
         · rw [aM hl] at hi
           obtain ⟨a1,a2,a3,a4,a5⟩:=i3 i k p hi
           refine ⟨a1,a2,by omega,a4,λm q2 hm=>?_⟩
           rw [aM (by omega)]
           exact a5 m q2 hm
         · rw [aN hl] at hi
           have h0:i-e2.length=0:=by
            rcases Nat.eq_zero_or_pos (i-e2.length) with h|h
            · exact h
            · rw [aP (by simp;omega)] at hi;cases hi
           rw [h0] at hi
           simp only [List.getElem?_cons_zero,bK,Prod.mk.injEq] at hi
           obtain ⟨rfl,rfl⟩:=hi
           refine ⟨mA hp,by omega,by omega,by rw [show ((j:Int)+1-1).toNat=j by omega];exact hc,λm q2 hm he=>?_⟩
           rw [aM (by omega)] at he
           have:=(i3 m _ q2 he).2.2.1
           omega
theorem Ad {es:List (Int×PP)} {k:Int} (h:∀ (i:Nat) (q:PP),es[i]?≠some (k,q)):rdO es k=none:=by
 unfold rdO
 have key:∀ (es:List (Int×PP)) (f:Int→Option PP),f k=none→(∀ e∈es,e.1≠k)→es.foldl (λf e=>λj=>if j=e.1 then some e.2 else f j) f k=none:=by
  intro es;induction es with
  |nil=>intro f hf _;exact hf
  |cons e es ih=>intro f hf he;simp only [List.foldl_cons];refine ih _ ?_ (λx hx=>he x (bS _ hx));show (if k=e.1 then some e.2 else f k)=none;rw [bg (λh=>he e (by simp) h.symm)];exact hf
 refine key es _ rfl (λe he h2=>?_);obtain ⟨i,hi⟩:=bW he;exact h i e.2 (by rw [hi,←h2])
end Go.Proofs.YtchbedbmjiabgaaGreatDoor
namespace Go.Proofs.YtchbedbmjiabgaaGreatDoor.Wi.Su
open Go.RowKit Go.Proofs.Tryz
def WAt (K:Nat→Prop) (p:Nat) (bs:List UInt8) (w:World):Prop:=∃ oa cap,IsW w p oa cap ⟨512,bs,0⟩∧¬ K p∧∀ k,blk oa=some k→¬ K k
def Puts (K:Nat→Prop) (p:Nat) (bs:List UInt8) (w:World) (r:Ending) (w':World):Prop:=r= .returned (.tuple #[])∧WAt K p bs w'∧Chg (λk=>¬ K k) w w'
theorem WAt.wrote {K:Nat→Prop} {p:Nat} {bs':List UInt8} {w w':World} {oa:Option Addr} (hB:∀ k,K k→k<w.heap.size) (hp:¬ K p) (ha:∀ k,blk oa=some k→¬ K k) (h:Wrote w p oa ⟨512,bs',0⟩ w'):WAt K p bs' w'∧Chg (λk=>¬ K k) w w':=by obtain ⟨oa',cap',h1,h2,h3⟩:=h;refine ⟨⟨oa',cap',h1,hp,λk hk=>?_⟩,h2.mono λk _ hk=>hk.elim (λe=>e▸hp) (ha k)⟩;rcases h3 with h3|⟨j,h3,h4⟩;exact ha k (h3▸hk);rw [h3] at hk;cases hk;intro e;have:=hB _ e;omega
theorem WAt.below {K:Nat→Prop} {p:Nat} {bs:List UInt8} {w w':World} (h:WAt K p bs w) (hb:Below w.heap.size w w'):WAt K p bs w':=by obtain ⟨oa,cap,h1,h2⟩:=h;exact ⟨oa,cap,h1.below hb,h2⟩
theorem WAt.more {K:Nat→Prop} {p:Nat} {bs:List UInt8} {w:World} (h:WAt K p bs w) (o:Obj):WAt (λk=>K k∨k=w.heap.size) p bs (w.alloc o):=by have h':=h.below (bY w o);obtain ⟨oa,cap,h1,h2,h3⟩:=h;have hp:=h1.lt;have hb:=h1.2.1.lt;exact ⟨oa,cap,h1.below (bY w o),λe=>e.elim h2 (λe=>by omega),λk hk e=>e.elim (h3 k hk) (λe=>by have:=hb k hk;omega)⟩
theorem WAt.less {K L:Nat→Prop} {p:Nat} {bs:List UInt8} {w:World} (h:WAt K p bs w) (hL:∀ k,L k→K k):WAt L p bs w:=by obtain ⟨oa,cap,h1,h2,h3⟩:=h;exact ⟨oa,cap,h1,λe=>h2 (hL _ e),λk hk e=>h3 k hk (hL _ e)⟩
theorem ii {bs xs:List UInt8} (h:bs.length+xs.length≤512):(⟨512,bs,0⟩:WS).add xs=⟨512,bs++xs,0⟩:=by simp only [WS.add];rw [bg (by simp),bg (by omega)]
theorem qR (K:Nat→Prop) (p:Nat) (bs:List UInt8) (n:Nat) (hn:n<256) (w:World) (hB:∀ k,K k→k<w.heap.size) (h:WAt K p bs w) (hr:bs.length+1≤512):
  Calls prog 73 #[.pointer (some ⟨p,0,none⟩),.int .u8 (n:Int)] w (Puts K p (bs++leb 1 n) w):=by obtain ⟨oa,cap,h1,h2,h3⟩:=h;refine (pg p oa cap _ n (by omega) w h1).mono ?_;rintro _ w' ⟨rfl,h4⟩;rw [ii (by rw [cd];exact hr)] at h4;exact ⟨rfl,WAt.wrote hB h2 h3 h4⟩
theorem fW (K:Nat→Prop) (p:Nat) (bs:List UInt8) (n:Nat) (hn:n<4294967296) (w:World) (hB:∀ k,K k→k<w.heap.size) (h:WAt K p bs w) (hr:bs.length+4≤512):
  Calls prog 71 #[.pointer (some ⟨p,0,none⟩),.int .u32 (n:Int)] w (Puts K p (bs++leb 4 n) w):=by obtain ⟨oa,cap,h1,h2,h3⟩:=h;refine (nU p oa cap _ n (by omega) w h1).mono ?_;rintro _ w' ⟨rfl,h4⟩;rw [ii (by rw [cd];exact hr)] at h4;exact ⟨rfl,WAt.wrote hB h2 h3 h4⟩
theorem tK (K:Nat→Prop) (p:Nat) (bs:List UInt8) (n:Nat) (hn:n<18446744073709551616) (w:World) (hB:∀ k,K k→k<w.heap.size) (h:WAt K p bs w) (hr:bs.length+8≤512):
  Calls prog 72 #[.pointer (some ⟨p,0,none⟩),.int .u64 (n:Int)] w (Puts K p (bs++leb 8 n) w):=by obtain ⟨oa,cap,h1,h2,h3⟩:=h;refine (nT p oa cap _ n (by omega) w h1).mono ?_;rintro _ w' ⟨rfl,h4⟩;rw [ii (by rw [cd];exact hr)] at h4;exact ⟨rfl,WAt.wrote hB h2 h3 h4⟩
theorem yT (K:Nat→Prop) (p:Nat) (bs:List UInt8) (w:World) (hB:∀ k,K k→k<w.heap.size) (h:WAt K p bs w) (hr:bs.length≤508):
  Calls prog 74 #[.pointer (some ⟨p,0,none⟩),.int .i64 508] w (Puts K p (fullB bs) w):=by obtain ⟨oa,cap,h1,h2,h3⟩:=h;refine (rV p oa cap _ 508 (by omega) w h1).mono ?_;rintro _ w' ⟨rfl,h4⟩;(have e:(⟨512,bs,0⟩:WS).fill 508=⟨512,fullB bs,0⟩:=by simp only [WS.fill];rw [bg (by omega),bg (by omega),ii (by simp;omega)];rfl);rw [e] at h4;exact ⟨rfl,WAt.wrote hB h2 h3 h4⟩
def rp (K:Nat→Prop) (p:Nat) (bs:List UInt8) (w:World) (r:Ending) (w':World):Prop:=
 ∃ oa cap,r= .returned (.tuple #[.slice oa bs.length cap,.int .i64 0])∧OB w' oa cap bs∧(∀ k,blk oa=some k→w.heap.size≤k)∧WAt K p bs w'∧Below w.heap.size w w'
theorem qY (K:Nat→Prop) (p:Nat) (bs:List UInt8) (w:World) (h:WAt K p bs w):
  Calls prog 75 #[.pointer (some ⟨p,0,none⟩)] w (rp K p bs w):=by have hw:=h;obtain ⟨oa,cap,h1,h2,h3⟩:=h;refine (wz p oa cap _ rfl w h1).mono ?_;rintro _ w' ⟨oa',cap',rfl,h4,h5,h6⟩;refine ⟨oa',cap',rfl,h4,λk hk=>?_,hw.below h6,h6⟩;rcases h5 with h5|h5;rw [h5] at hk;cases hk;rw [h5] at hk;cases hk;exact am _
theorem gA {B:Nat} {w w':World} (h:Chg (λk=>¬ k<B) w w') (hB:B≤w.heap.size):Below B w w':=h.below hB λk hk=>by omega
theorem jz {w:World} {g:Nat} {x:RT} (h:w.heap[g]?=some (eY x)):
  w.cell? ⟨g,0,none⟩=some (.int .i64 x.id)∧w.cell? ⟨g,1,none⟩=some (.int .i64 x.root)∧w.cell? ⟨g,2,none⟩=some (.int .i64 x.height)∧w.cell? ⟨g,3,none⟩=some (.int .i64 x.items):=by unfold eY at h;simp [World.cell?,h]
def RelE (W:World) (B p:Nat) (hd:List UInt8) (rs:List RT) (i:Value) (wr:World):Prop:=
 ∃ k:Nat,k≤rs.length∧i= .int .i64 k∧WAt (· <B) p (hd++dT (rs.take k)) wr∧Below B W wr
def encB (s:SP):List UInt8:=if scheck s=0 then laid s else []
def Enc (s:SP) (w:World) (e:Ending) (w':World):Prop:=
 ∃ oa cap,e= .returned (.tuple #[.slice oa (encB s).length cap,.int .i64 (scheck s:Int)])∧OB w' oa cap (encB s)∧(∀ k,blk oa=some k→w.heap.size≤k)∧Below w.heap.size w w'
theorem encode_any (s:SP) (a:Option Addr) (cap:Nat) (w:World) (B:Nat) (hB:B≤w.heap.size) (hs:SpAt B w s a cap):
  Calls prog 52 #[spv s a cap] w (Enc s w):=by
   have HC:=Hd λw' (hb:Below w.heap.size w w') (hz:w.heap.size≤w'.heap.size)=>check_any s a cap w' B (ao hB hz) (hs.below (hb.mono hB));by_cases h0:scheck s=0
   ·have hR:=scheck_ok.1 h0;have HE:=Hd (show encB s=laid s by rw [encB,bh h0]);have DP:=Hd h0;have HR:=Hd hR;have hrl:=hR.len;obtain ⟨⟨hg1,hg2⟩,⟨hx1,hx2⟩, -⟩:=hR.num;obtain ⟨⟨hb1,hb2⟩,⟨hc1,hc2⟩,⟨he1,he2⟩⟩:=hR.may;unfold Checked at HC;rw [h0] at HC;have Hs:=Hd hs;obtain ⟨gen,⟨bl,cl,re⟩,nx,rs⟩:=s;simp only at hg1 hg2 hx1 hx2 hb1 hb2 hc1 hc2 he1 he2 hrl;obtain ⟨gen,rfl⟩:=Int.eq_ofNat_of_zero_le hg1;obtain ⟨bl,rfl⟩:=Int.eq_ofNat_of_zero_le (show 0≤bl by omega);obtain ⟨cl,rfl⟩:=Int.eq_ofNat_of_zero_le (show 0≤cl by omega);obtain ⟨re,rfl⟩:=Int.eq_ofNat_of_zero_le (show 0≤re by omega);obtain ⟨nx,rfl⟩:=Int.eq_ofNat_of_zero_le (show 0≤nx by omega);unfold spv at*;simp only at HC⊢;obtain ⟨n,hnl⟩:∃ n,rs.length=n:=⟨_,rfl⟩;have Hnl:=Hd hnl;rw [hnl] at hrl HC⊢;have HK:∀ w1,Below (w.alloc (sBox gen bl cl re nx a n cap)).heap.size (w.alloc (sBox gen bl cl re nx a n cap)) w1→SBox w1 w.heap.size gen bl cl re nx a n cap:=λw1 hb=>SBox.kept (w:=w.alloc (sBox gen bl cl re nx a n cap)) (az w _) hb (by simp);have HK:=Hd HK;unfold sBox at HK;clear hs hnl h0 hR;go_enter func52,ntmps52;go_wp2_with fail;refine (HC.out _ (bY w _) (bY w _).size).mono ?_;rintro _ w1 ⟨rfl,hb1⟩;have hS1:=HK.out w1 hb1;have hB1:=(bY w (.cells #[.int .i64 gen,.int .i64 bl,.int .i64 cl,.int .i64 re,.int .i64 nx,.slice a n cap] 57)).trans (hb1.mono (by simp));have hz1:w.heap.size<w1.heap.size:=an (by simp) hb1.size;have Dn:=Hd hS1;have Bh:=Hd hB1;clear hS1 hB1 hb1 HK HC;go_wp2_with fail;refine (j1 512 w1).mono ?_;rintro _ w2 ⟨rfl,hW2,hb2⟩;have hW2:WAt (· <w1.heap.size) w1.heap.size [] w2:=⟨none,0,hW2,by omega,λk e=>by cases e⟩;have hz2:=hb2.size;have H:=Hd (fW _ _ _ 827346755 (by omega) w2 (λk (hk:k<_)=>by omega) hW2 (by decide));have Hb2:=Hd hb2;clear hb2 hW2;go_wp2_with fail;refine H.out.mono ?_;clear H;rintro _ w3 ⟨rfl,hW3,hb3⟩;have hb3:=Hb2.out.trans (gA hb3 hz2);have hz3:=hb3.size;have H:=Hd (tK _ _ _ gen (by omega) w3 (λk (hk:k<_)=>by omega) hW3 (by simp [cd]));obtain ⟨y0,y1,y2,y3,y4,y5⟩:=(Dn.out.kept hb3 hz1).cells;have Hb3:=Hd hb3;clear hb3 hW3;go_wp2_with fail;clear y0 y1 y2 y3 y4 y5;refine H.out.mono ?_;clear H;rintro _ w4 ⟨rfl,hW4,hb4⟩;have hb4:=Hb3.out.trans (gA hb4 hz3);have hz4:=hb4.size;have H:=Hd (fW _ _ _ bl (by omega) w4 (λk (hk:k<_)=>by omega) hW4 (by simp [cd]));obtain ⟨y0,y1,y2,y3,y4,y5⟩:=(Dn.out.kept hb4 hz1).cells;have Hb4:=Hd hb4;clear hb4 hW4;go_wp2_with fail;clear y0 y1 y2 y3 y4 y5;refine H.out.mono ?_;clear H;rintro _ w5 ⟨rfl,hW5,hb5⟩;have hb5:=Hb4.out.trans (gA hb5 hz4);have hz5:=hb5.size;have H:=Hd (qR _ _ _ cl (by omega) w5 (λk (hk:k<_)=>by omega) hW5 (by simp [cd]));obtain ⟨y0,y1,y2,y3,y4,y5⟩:=(Dn.out.kept hb5 hz1).cells;have Hb5:=Hd hb5;clear hb5 hW5;go_wp2_with fail;clear y0 y1 y2 y3 y4 y5;refine H.out.mono ?_;clear H;rintro _ w6 ⟨rfl,hW6,hb6⟩;have hb6:=Hb5.out.trans (gA hb6 hz5);have hz6:=hb6.size;have H:=Hd (fW _ _ _ re (by omega) w6 (λk (hk:k<_)=>by omega) hW6 (by simp [cd]));obtain ⟨y0,y1,y2,y3,y4,y5⟩:=(Dn.out.kept hb6 hz1).cells;have Hb6:=Hd hb6;clear hb6 hW6;go_wp2_with fail;clear y0 y1 y2 y3 y4 y5;refine H.out.mono ?_;clear H;rintro _ w7 ⟨rfl,hW7,hb7⟩;have hb7:=Hb6.out.trans (gA hb7 hz6);have hz7:=hb7.size;have H:=Hd (fW _ _ _ nx (by omega) w7 (λk (hk:k<_)=>by omega) hW7 (by simp [cd]));obtain ⟨y0,y1,y2,y3,y4,y5⟩:=(Dn.out.kept hb7 hz1).cells;have Hb7:=Hd hb7;clear hb7 hW7;go_wp2_with fail;clear y0 y1 y2 y3 y4 y5;refine H.out.mono ?_;clear H;rintro _ w8 ⟨rfl,hW8,hb8⟩;have hb8:=Hb7.out.trans (gA hb8 hz7);have hz8:=hb8.size;have H:=Hd (qR _ _ _ n (by omega) w8 (λk (hk:k<_)=>by omega) hW8 (by simp [cd]));obtain ⟨y0,y1,y2,y3,y4,y5⟩:=(Dn.out.kept hb8 hz1).cells;have Hb8:=Hd hb8;clear hb8 hW8;go_wp2_with fail;clear y0 y1 y2 y3 y4 y5;refine H.out.mono ?_;clear H;rintro _ w9 ⟨rfl,hW9,hb9⟩;have hb9:=Hb8.out.trans (gA hb9 hz8);have hz9:=hb9.size;obtain ⟨y0,y1,y2,y3,y4,y5⟩:=(Dn.out.kept hb9 hz1).cells;have Hb9:=Hd hb9;have HW9:=Hd hW9;clear hb9 hW9;go_wp2_with fail;clear y0 y1 y2 y3 y4 y5;(have hhd:headB ⟨gen,⟨bl,cl,re⟩,nx,rs⟩=[]++leb 4 827346755++leb 8 gen++leb 4 bl++leb 1 cl++leb 4 re++leb 4 nx++leb 1 n:=by simp [headB,Hnl.out]);rw [←hhd] at HW9;have hhl:=i7 ⟨gen,⟨bl,cl,re⟩,nx,rs⟩;have Hhd:=Hd (show bodyB ⟨gen,⟨bl,cl,re⟩,nx,rs⟩=headB ⟨gen,⟨bl,cl,re⟩,nx,rs⟩++dT rs from rfl);generalize headB ⟨gen,⟨bl,cl,re⟩,nx,rs⟩=hd at HW9 hhl Hhd;clear hhd;go_loopw [55] (λi wr=>RelE w1 w1.heap.size w1.heap.size hd rs i wr) (λi _=>n-(intOf i).toNat);case atStart=>exact ⟨0,aV _,rfl,by simpa [dT] using HW9.out,Hb9.out⟩
    case round=>
     clear HW9 Hb9;obtain ⟨k,hk,rfl,hW,hBw⟩:=hrel;rw [Hnl.out] at hk;by_cases hlt:k<n
     ·obtain ⟨x,hxk⟩:∃ x,rs[k]?=some x:=⟨_,ap (by rw [Hnl.out];exact hlt)⟩;have hBr:Below B w wr:=(Bh.out.trans (hBw.mono Bh.out.size)).mono hB;obtain ⟨b,off,rfl,hb,⟨c0,c1,c2,c3⟩⟩:=(Hs.out.rts.below hBr).at hxk;have hxr:=HR.out.root hxk;(have hblen:(hd++dT (rs.take k)).length=26+13*k:=by rw [aq,hhl,jY,aC,Hnl.out];omega);have Hsn:=Hd (show hd++dT (rs.take (k+1))=hd++dT (rs.take k)++jj x by rw [sD hxk,aQ]);have hV0:=hW.more (eY x);have hg0:=az wr (eY x);have hzr:=hBw.size;have hcB:Below w1.heap.size w1 (wr.alloc (eY x)):=hBw.alloc hzr _;obtain ⟨id,ro,he,it⟩:=x;obtain ⟨⟨i1,i2⟩,⟨r1,r2⟩,⟨e1,e2⟩,⟨t1,t2⟩⟩:=hxr;simp only at c0 c1 c2 c3 i1 i2 r1 r2 e1 e2 t1 t2;obtain ⟨id,rfl⟩:=Int.eq_ofNat_of_zero_le i1;obtain ⟨ro,rfl⟩:=Int.eq_ofNat_of_zero_le r1;obtain ⟨he,rfl⟩:=Int.eq_ofNat_of_zero_le e1;obtain ⟨it,rfl⟩:=Int.eq_ofNat_of_zero_le t1;generalize hd++dT (rs.take k)=bs at hV0 hblen Hsn;(have hz0:wr.heap.size<(wr.alloc (eY ⟨id,ro,he,it⟩)).heap.size:=by simp);have H:=Hd (fW _ _ _ id (by omega) _ (λj (hj:j<_∨j=_)=>by omega) hV0 (by omega));have Hc0:=Hd (ae (λj=>¬ (j<w1.heap.size∨j=wr.heap.size)) (wr.alloc (eY ⟨id,ro,he,it⟩)));have Hg0:=Hd hg0;have HcB:=Hd hcB;have Hz0:=Hd hz0;unfold eY at H Hz0;clear hBw hW hxk hBr hV0 hg0 hcB hz0;go_wp2_with fail;refine H.out.mono ?_;clear H;rintro _ v1 ⟨rfl,hV1,hc1⟩;have hc1:=Hc0.out.trans hc1 (λi _ e=>e);have hz1:=an Hz0.out hc1.size;obtain ⟨c0,c1,c2,c3⟩:=jz ((hc1.block wr.heap.size Hz0.out (λe=>e (.inr rfl))).trans Hg0.out);have H:=Hd (fW _ _ _ ro (by omega) v1 (λj (hj:j<_∨j=_)=>by omega) hV1 (by simp [cd];omega));have Hc1:=Hd hc1;simp only at c0 c1 c2 c3;clear hc1 hV1;go_wp2_with fail;clear c0 c1 c2 c3;refine H.out.mono ?_;clear H;rintro _ v2 ⟨rfl,hV2,hc2⟩;have hc2:=Hc1.out.trans hc2 (λi _ e=>e);have hz2:=an Hz0.out hc2.size;obtain ⟨c0,c1,c2,c3⟩:=jz ((hc2.block wr.heap.size Hz0.out (λe=>e (.inr rfl))).trans Hg0.out);have H:=Hd (qR _ _ _ he (by omega) v2 (λj (hj:j<_∨j=_)=>by omega) hV2 (by simp [cd];omega));have Hc2:=Hd hc2;simp only at c0 c1 c2 c3;clear hc2 hV2;go_wp2_with fail;clear c0 c1 c2 c3;refine H.out.mono ?_;clear H;rintro _ v3 ⟨rfl,hV3,hc3⟩;have hc3:=Hc2.out.trans hc3 (λi _ e=>e);have hz3:=an Hz0.out hc3.size;obtain ⟨c0,c1,c2,c3⟩:=jz ((hc3.block wr.heap.size Hz0.out (λe=>e (.inr rfl))).trans Hg0.out);have H:=Hd (fW _ _ _ it (by omega) v3 (λj (hj:j<_∨j=_)=>by omega) hV3 (by simp [cd];omega));have Hc3:=Hd hc3;simp only at c0 c1 c2 c3;clear hc3 hV3;go_wp2_with fail;clear c0 c1 c2 c3;refine H.out.mono ?_;clear H;rintro _ v4 ⟨rfl,hV4,hc4⟩;have hc4:=Hc3.out.trans hc4 (λi _ e=>e);have HV4:=Hd (hV4.less (L:=(· <w1.heap.size)) λj hj=> .inl hj);have Be:=Hd (HcB.out.trans ((hc4.mono (G:=λj=>¬ j<w1.heap.size) λj _ hj e=>hj (.inl e)).below HcB.out.size (λj hj=>by omega)));clear hc4 hV4;go_wp2_with fail;go_roundw;(case rel=>refine ⟨k+1,by rw [Hnl.out];omega,by go_num,?_,Be.out⟩;rw [Hsn.out];simpa [jj] using HV4.out);case measure=>simp [intOf];omega
     ·have hke:rs.take k=rs:=av (by rw [Hnl.out];omega);rw [hke,←Hhd.out] at hW;have hBl:(bodyB ⟨gen,⟨bl,cl,re⟩,nx,rs⟩).length≤508:=HR.out.body;have HLd:=Hd (show laid ⟨gen,⟨bl,cl,re⟩,nx,rs⟩=fullB (bodyB ⟨gen,⟨bl,cl,re⟩,nx,rs⟩)++leb 4 (Crc.ofs (fullB (bodyB ⟨gen,⟨bl,cl,re⟩,nx,rs⟩))) from rfl);generalize bodyB ⟨gen,⟨bl,cl,re⟩,nx,rs⟩=bs at hW hBl HLd;have hfl:=cM hBl;have hzr:=hBw.size;have H:=Hd (yT _ _ _ wr (λj (hj:j<_)=>by omega) hW hBl);generalize fullB bs=fs at hfl H HLd;have F1:=Hd hBw;clear hke hW hBw;go_wp2_with fail;refine H.out.mono ?_;clear H;rintro _ v1 ⟨rfl,hV1,hc1⟩;have hb1:=F1.out.trans (gA hc1 hzr);have hz1:=hb1.size;have H:=Hd (qY _ _ _ v1 hV1);have Hb1:=Hd hb1;clear hb1 hV1 hc1;go_wp2_with fail;refine H.out.mono ?_;clear H;rintro _ v2 ⟨oa,oc,rfl,hO,hof,hV2,hb2⟩;have hb2:=Hb1.out.trans (hb2.mono hz1);have hz2:=hb2.size;have H:=Hd (iF fs oa oc (by omega) v2 hO.bts);rw [hfl] at H;have Hb2:=Hd hb2;have HV2:=Hd hV2;clear hb2 hV2 hO hof;rw [hfl];go_wp2_with fail;refine H.out.mono ?_;clear H;rintro _ v3 ⟨rfl,hb3⟩;have hV3:=HV2.out.below hb3;have hb3:=Hb2.out.trans (hb3.mono hz2);have hz3:=hb3.size;have H:=Hd (fW _ _ _ (Crc.ofs fs) (Crc.ofs_lt _) v3 (λj (hj:j<_)=>by omega) hV3 (by omega));rw [←HLd.out] at H;generalize Crc.ofs fs=sm at H;have Hb3:=Hd hb3;clear hb3 hV3;go_wp2_with fail;refine H.out.mono ?_;clear H;rintro _ v4 ⟨rfl,hV4,hc4⟩;have hb4:=Hb3.out.trans (gA hc4 hz3);have hz4:=hb4.size;have H:=Hd (qY _ _ _ v4 hV4);have Hb4:=Hd hb4;clear hb4 hV4 hc4;go_wp2_with fail;refine H.out.mono ?_;clear H;rintro _ v5 ⟨oa5,oc5,rfl,hO5,hof5,hV5,hb5⟩;have hb5':=Hb4.out.trans (hb5.mono hz4);have CG:=Hd hO5;have Hb5:=Hd (Bh.out.trans (hb5'.mono Bh.out.size));have Hof:=Hd (show ∀ j,blk oa5=some j→w.heap.size≤j from λj hj=>by have:=hof5 j hj;omega);clear hO5 hof5 hV5 hb5 hb5';go_wp2_with fail;go_ret2;exact ⟨oa5,oc5,by rw [HE.out,DP.out];rfl,by rw [HE.out];exact CG.out,Hof.out,Hb5.out⟩
   ·have HE:=Hd (show encB s=[] by rw [encB,bg h0]);have hlt:=oW s;have Hsc:=Hd (show ((scheck s:Int)==0)=false by rw [br];omega);(have hne:((scheck s:Int) != 0)=true:=by rw [bO];omega);unfold Checked at HC;generalize hsc:scheck s=sc at*;have Hsc2:=Hd hsc;obtain ⟨gen,⟨bl,cl,re⟩,nx,rs⟩:=s;unfold spv at*;simp only at HC⊢;clear hs hsc;go_enter func52,ntmps52;go_wp2_with fail;refine (HC.out _ (bY w _) (bY w _).size).mono ?_;rintro _ w1 ⟨rfl,hb1⟩;go_wp2_with fail;go_ret2;refine ⟨none,0,by rw [HE.out,Hsc2.out];rfl,by rw [HE.out];exact ah _,(λk hk=>by cases hk),(bY w _).trans (hb1.mono (by simp))⟩
end Go.Proofs.YtchbedbmjiabgaaGreatDoor.Wi.Su
