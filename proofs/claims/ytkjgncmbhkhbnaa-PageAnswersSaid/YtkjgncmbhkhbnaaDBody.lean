/- The document's low of chapter 7, and Summed. The document's low once more, and what body keeps on its way. The document's body of a page: a blob. -/
import Derived.Test.YtkjgncmbhkhbnaaPgL
import Derived.Test.YtkjgncmbhkhbnaaApp
import Derived.Test.YtkjgncmbhkhbnaaSpare
import Derived.Test.YtkjgncmbhkhbnaaRefN
import Derived.Test.YtkjgncmbhkhbnaaPChk
import Derived.Test.YtkjgncmbhkhbnaaPEnc
import Derived.Deep.CutRange
namespace Go.Proofs.Ytkjgncmbhkhbnaa
open Go.RowKit
set_option linter.unusedVariables false
set_option maxRecDepth 100000

/-- a list of the program's own, above B -/
def OwnB (B m : Nat) (bs : List UInt8) (oa : Option Addr) (cap : Nat) (w : World) : Prop := OB w oa cap bs ∧ bs.length = m ∧ ∀ k, blk oa = some k → B ≤ k
def LowB (B m : Nat) (bs : List UInt8) (w : World) (e : Ending) (w' : World) : Prop := ∃ oa cap, e = .returned (.slice oa m cap) ∧ OwnB B m bs oa cap w' ∧ Below B w w'
theorem OwnB.below {B m : Nat} {bs : List UInt8} {oa : Option Addr} {cap : Nat} {w w' : World} (h : OwnB B m bs oa cap w) (hb : Below w.heap.size w w') : OwnB B m bs oa cap w' := ⟨h.1.below hb, h.2⟩
/-- it is lengthened -/
theorem OwnB.grow {B m n : Nat} {bs xs : List UInt8} {oa oa2 : Option Addr} {cap cap2 : Nat} {w w2 : World} (h : OwnB B m bs oa cap w) (hB : B ≤ w.heap.size) (hn : xs.length = n) (hO : OB w2 oa2 cap2 (bs ++ xs)) (hC : Chg (fun k => blk oa = some k) w w2) (hb : blk oa2 = blk oa ∨ blk oa2 = some w.heap.size) :
    OwnB B (m + n) (bs ++ xs) oa2 cap2 w2 ∧ Below B w w2 := by
  refine ⟨⟨hO, by rw [List.length_append, h.2.1, hn], fun k hk => ?_⟩, hC.below hB h.2.2⟩
  rcases hb with hb | hb
  · exact h.2.2 k (hb ▸ hk)
  · rw [hb] at hk; cases hk; exact hB
def RelDL (W : World) (B m : Nat) (bs : List UInt8) (n x : Nat) (o xv i : Value) (wr : World) : Prop :=
  ∃ (k : Nat) (oa : Option Addr) (cap : Nat), k ≤ n ∧ i = .int .i64 k ∧ xv = .int .i64 ((x / 256 ^ k : Nat) : Int) ∧ o = .slice oa (m + k) cap ∧ OwnB B (m + k) (bs ++ (leb n x).take k) oa cap wr ∧ Below B W wr
set_option maxHeartbeats 1000000 in
theorem lowB (B : Nat) (oa : Option Addr) (cap m : Nat) (bs : List UInt8) (x n : Nat) (hx : x < 9223372036854775808) (hn : n ≤ 8) (hl : m ≤ 1000000) (w : World) (hB : B ≤ w.heap.size) (h : OwnB B m bs oa cap w) :
    Calls Try.prog 64 #[.slice oa m cap, .int .i64 (x : Int), .int .i64 (n : Int)] w (LowB B (m + n) (bs ++ leb n x) w) := by
  have Hh := Lib.hid h
  clear h
  go_enter Try.func64, Try.ntmps64
  go_wp2_with fail
  go_loopw [0, 1, 7] (fun o xv i wr => RelDL w B m bs n x o xv i wr) (fun _ _ i _ => n - (intOf i).toNat)
  case atStart => exact ⟨0, oa, cap, Nat.zero_le _, rfl, by simp, rfl, by simpa using Hh.out, Below.refl _ _⟩
  case round =>
    obtain ⟨k, oa1, cap1, hk, rfl, rfl, rfl, hO, hC⟩ := hrel
    by_cases hlt : k < n
    · have hbk := leb_get n x k hlt
      have hbv : ((x / 256 ^ k : Nat) : Int) % 256 = (((UInt8.ofNat (x / 256 ^ k % 256)).toNat : Nat) : Int) := (u8_mod _).symm
      have hxv : ((x / 256 ^ k : Nat) : Int) / 256 = ((x / 256 ^ (k + 1) : Nat) : Int) := by rw [Nat.pow_succ, ← Nat.div_div_eq_div_mul]; rfl
      have hxl : x / 256 ^ k < 9223372036854775808 := Nat.lt_of_le_of_lt (Nat.div_le_self _ _) hx
      have Hts := Lib.hid (show bs ++ (leb n x).take (k + 1) = bs ++ (leb n x).take k ++ [UInt8.ofNat (x / 256 ^ k % 256)] by rw [List.take_add_one, hbk]; simp)
      have hBr : B ≤ wr.heap.size := Nat.le_trans hB hC.size
      generalize hb : UInt8.ofNat (x / 256 ^ k % 256) = b at hbv Hts
      generalize hx2 : x / 256 ^ (k + 1) = x2 at hxv
      have HX2 := Lib.hid hx2
      clear hx2
      generalize x / 256 ^ k = x1 at hbv hxv hxl ⊢
      generalize bs ++ (leb n x).take k = ts at hO Hts
      have hb1 := one_below wr (.cells #[.int .u8 (b.toNat : Int)] 5)
      have HO2 := Lib.hid (hO.below hb1)
      have hx1 := one_new wr b
      have HC := Lib.hid (hC.trans (hb1.mono hBr))
      have hwb : IntKind.u8.wrap (b.toNat : Int) = (b.toNat : Int) := by have := b.toNat_lt; simp [IntKind.wrap, IntKind.signed, IntKind.bits]; omega
      have hs1 : B ≤ (wr.alloc (.cells #[.int .u8 (b.toNat : Int)] 5)).heap.size := Nat.le_trans hBr hb1.size
      have HS1 := Lib.hid hs1
      have hbl : (b.toNat : Int) % 256 = (b.toNat : Int) := by have := b.toNat_lt; omega
      clear hO hC hbk hb1 hb hs1
      go_wp2_with (at_builtin; refine wpList_append_bytes rfl (.tmp 13) (.tmp 17) rfl (n := m + k) (m := 1) (xs := [b]) HO2.out.2.1.symm rfl HO2.out.1 rfl rfl hx1 (fun e => by cases e) (by omega) ?_
                   intro oa2 cap2 w2 hO3 hC2 hb2 _)
      have hg := HO2.out.grow HS1.out (n := 1) rfl hO3 hC2 hb2
      refine ⟨⟨k + 1, oa2, cap2, hlt, by go_num, ?_, rfl, by rw [Hts.out]; exact hg.1, HC.out.trans hg.2⟩, by simp [intOf]; omega⟩
      rw [HX2.out]
    · have hkn : k = n := by omega
      subst hkn
      have HF : LowB B (m + k) (bs ++ leb k x) w (.returned (.slice oa1 (m + k) cap1)) wr := by
        have ht : (leb k x).take k = leb k x := List.take_of_length_le (by rw [leb_length]; exact Nat.le_refl _)
        rw [ht] at hO
        exact ⟨oa1, cap1, rfl, hO, hC⟩
      have HF := Lib.hid HF
      clear hO hC
      go_wp2_with fail
      go_ret
      exact HF.out
def lenOf : Value → Nat
  | .slice _ n _ => n
  | _ => 0
def RelSm (W : World) (B : Nat) (bs : List UInt8) (o : Value) (wr : World) : Prop :=
  ∃ (k : Nat) (oa : Option Addr) (cap : Nat), bs.length + k ≤ 508 ∧ o = .slice oa (bs.length + k) cap ∧ OwnB B (bs.length + k) (bs ++ List.replicate k 0) oa cap wr ∧ Below B W wr
set_option maxHeartbeats 1000000 in
theorem dSummed_any (oa : Option Addr) (cap : Nat) (bs : List UInt8) (hl : bs.length ≤ 508) (w : World) (hb : Bts w oa bs) :
    Calls Try.prog 51 #[.slice oa bs.length cap] w (LowB w.heap.size 512 (summed (fullB bs)) w) := by
  have HC := Lib.hid (copyBytes_any oa cap bs (by omega) w hb)
  obtain ⟨m, hm⟩ : ∃ m, bs.length = m := ⟨_, rfl⟩
  rw [hm] at HC hl ⊢
  have HM := Lib.hid hm
  unfold NewB at HC
  simp only [hm] at HC
  clear hb hm
  go_enter Try.func51, Try.ntmps51
  go_wp2_with fail
  refine HC.out.mono ?_
  rintro _ w1 ⟨oa1, oc1, rfl, hO, ho, hb1⟩
  have HO := Lib.hid (show OwnB w.heap.size m bs oa1 oc1 w1 from ⟨hO, HM.out, ho⟩)
  have HB1 := Lib.hid hb1
  clear HC hO ho hb1
  go_wp2_with fail
  go_loopw [3] (fun o wr => RelSm w w.heap.size bs o wr) (fun o _ => 508 - lenOf o)
  case atStart => exact ⟨0, oa1, oc1, by rw [HM.out]; exact hl, by rw [HM.out]; rfl, by simpa [HM.out] using HO.out, HB1.out⟩
  case round =>
    clear HO HB1
    obtain ⟨k, oa2, oc2, hk, rfl, hO, hB⟩ := hrel
    rw [HM.out] at hk hO ⊢
    have hBr := hB.size
    by_cases hlt : m + k < 508
    · have Hts := Lib.hid (show bs ++ List.replicate (k + 1) 0 = bs ++ List.replicate k 0 ++ [(0 : UInt8)] by rw [List.replicate_succ', List.append_assoc])
      generalize bs ++ List.replicate k 0 = ts at hO Hts
      have hb1 := one_below wr (.cells #[.int .u8 ((0 : UInt8).toNat : Int)] 5)
      have HO2 := Lib.hid (hO.below hb1)
      have hx1 := one_new wr 0
      have HC := Lib.hid (hB.trans (hb1.mono hBr))
      have HS1 := Lib.hid (Nat.le_trans hBr hb1.size)
      have hz0 : ((0 : UInt8).toNat : Int) = 0 := rfl
      rw [hz0] at HO2 hx1 HC HS1
      have hlI : (m : Int) + (k : Int) < 508 := by omega
      clear hO hB hb1 hz0
      go_wp2_with (at_builtin; refine wpList_append_bytes rfl (.tmp 9) (.tmp 10) rfl (n := m + k) (m := 1) (xs := [0]) HO2.out.2.1.symm rfl HO2.out.1 rfl rfl hx1 (fun e => by cases e) (by omega) ?_
                   intro oa3 cap3 w2 hO3 hC2 hb2 _)
      have hg := HO2.out.grow HS1.out (n := 1) rfl hO3 hC2 hb2
      refine ⟨⟨k + 1, oa3, cap3, by rw [HM.out]; omega, by rw [HM.out]; rfl, by rw [HM.out, Hts.out]; exact hg.1, HC.out.trans hg.2⟩, by simp only [lenOf]; omega⟩
    · have hmk : m + k = 508 := by omega
      have HF := Lib.hid (show bs ++ List.replicate k 0 = fullB bs by unfold fullB; rw [HM.out, show 508 - m = k by omega])
      rw [HF.out, hmk] at hO
      rw [hmk]
      have hof := Crc.ofs_lt (fullB bs)
      have HS := Lib.hid (refOf_any (fullB bs) oa2 oc2 (by rw [hO.2.1]; decide) wr hO.1.bts)
      rw [hO.2.1] at HS
      have HSM := Lib.hid (show summed (fullB bs) = fullB bs ++ leb 4 (Crc.ofs (fullB bs)) from rfl)
      generalize Crc.ofs (fullB bs) = cs at HS HSM hof
      have HLW := Lib.hid (lowB w.heap.size oa2 oc2 508 (fullB bs) cs 4 (by omega) (by decide) (by decide) wr hBr hO)
      have HBr := Lib.hid hB
      clear hO hB HF hlt hk hmk
      go_wp2_with fail
      refine HS.out.mono ?_
      rintro _ w2 ⟨rfl, rfl⟩
      go_wp2_with fail
      refine HLW.out.mono ?_
      rintro _ w3 ⟨oa3, oc3, rfl, hO3, hB3⟩
      have HFin := Lib.hid (show LowB w.heap.size 512 (summed (fullB bs)) w (.returned (.slice oa3 512 oc3)) w3 from ⟨oa3, oc3, rfl, by rw [HSM.out]; exact hO3, HBr.out.trans hB3⟩)
      clear hO3 hB3 HLW HS
      go_wp2_with fail
      go_ret
      exact HFin.out
end Go.Proofs.Ytkjgncmbhkhbnaa
namespace Go.Proofs.Ytkjgncmbhkhbnaa
open Go.RowKit
set_option linter.unusedVariables false
set_option maxRecDepth 100000

/-- a list is lengthened: where it lies now, and what has turned -/
def LowG (oa0 : Option Addr) (m : Nat) (bs : List UInt8) (w : World) (e : Ending) (w' : World) : Prop :=
  ∃ oa cap, e = .returned (.slice oa m cap) ∧ OB w' oa cap bs ∧ (blk oa = blk oa0 ∨ ∃ q, blk oa = some q ∧ w.heap.size ≤ q) ∧ Chg (fun q => blk oa0 = some q) w w'
theorem grew_next {W w1 w2 : World} {oa0 oa1 oa2 : Option Addr} (h0 : blk oa1 = blk oa0 ∨ ∃ q, blk oa1 = some q ∧ W.heap.size ≤ q) (h1 : Chg (fun q => blk oa0 = some q) W w1) (h2 : Chg (fun q => blk oa1 = some q) w1 w2) (hb : blk oa2 = blk oa1 ∨ blk oa2 = some w1.heap.size) :
    (blk oa2 = blk oa0 ∨ ∃ q, blk oa2 = some q ∧ W.heap.size ≤ q) ∧ Chg (fun q => blk oa0 = some q) W w2 := by
  refine ⟨?_, h1.trans h2 (fun i hi e => ?_)⟩
  · rcases hb with hb | hb
    · rw [hb]; exact h0
    · exact .inr ⟨_, hb, h1.size⟩
  · rcases h0 with h0 | ⟨q, h0, h3⟩
    · rw [← h0]; exact e
    · rw [h0] at e; cases e; omega
def RelDG (W : World) (oa0 : Option Addr) (m : Nat) (bs : List UInt8) (n x : Nat) (o xv i : Value) (wr : World) : Prop :=
  ∃ (k : Nat) (oa : Option Addr) (cap : Nat), k ≤ n ∧ i = .int .i64 k ∧ xv = .int .i64 ((x / 256 ^ k : Nat) : Int) ∧ o = .slice oa (m + k) cap ∧ OB wr oa cap (bs ++ (leb n x).take k) ∧ (blk oa = blk oa0 ∨ ∃ q, blk oa = some q ∧ W.heap.size ≤ q) ∧ Chg (fun q => blk oa0 = some q) W wr
set_option maxHeartbeats 1000000 in
theorem lowG (oa : Option Addr) (cap m : Nat) (bs : List UInt8) (x n : Nat) (hx : x < 9223372036854775808) (hn : n ≤ 8) (hl : m ≤ 1000000) (w : World) (hm : bs.length = m) (h : OB w oa cap bs) :
    Calls Try.prog 64 #[.slice oa m cap, .int .i64 (x : Int), .int .i64 (n : Int)] w (LowG oa (m + n) (bs ++ leb n x) w) := by
  have Hh := Lib.hid h
  clear h
  go_enter Try.func64, Try.ntmps64
  go_wp2_with fail
  go_loopw [0, 1, 7] (fun o xv i wr => RelDG w oa m bs n x o xv i wr) (fun _ _ i _ => n - (intOf i).toNat)
  case atStart => exact ⟨0, oa, cap, Nat.zero_le _, rfl, by simp, rfl, by simpa using Hh.out, .inl rfl, Chg.refl _ _⟩
  case round =>
    obtain ⟨k, oa1, cap1, hk, rfl, rfl, rfl, hO, hb0, hC⟩ := hrel
    by_cases hlt : k < n
    · have hbk := leb_get n x k hlt
      have hbv : ((x / 256 ^ k : Nat) : Int) % 256 = (((UInt8.ofNat (x / 256 ^ k % 256)).toNat : Nat) : Int) := (u8_mod _).symm
      have hxv : ((x / 256 ^ k : Nat) : Int) / 256 = ((x / 256 ^ (k + 1) : Nat) : Int) := by rw [Nat.pow_succ, ← Nat.div_div_eq_div_mul]; rfl
      have hxl : x / 256 ^ k < 9223372036854775808 := Nat.lt_of_le_of_lt (Nat.div_le_self _ _) hx
      have Hts := Lib.hid (show bs ++ (leb n x).take (k + 1) = bs ++ (leb n x).take k ++ [UInt8.ofNat (x / 256 ^ k % 256)] by rw [List.take_add_one, hbk]; simp)
      have Hml := Lib.hid (show m + k = (bs ++ (leb n x).take k).length by rw [List.length_append, hm, List.length_take, leb_length]; omega)
      generalize hb : UInt8.ofNat (x / 256 ^ k % 256) = b at hbv Hts
      generalize hx2 : x / 256 ^ (k + 1) = x2 at hxv
      have HX2 := Lib.hid hx2
      clear hx2
      generalize x / 256 ^ k = x1 at hbv hxv hxl ⊢
      generalize bs ++ (leb n x).take k = ts at hO Hts Hml
      have hb1 := one_below wr (.cells #[.int .u8 (b.toNat : Int)] 5)
      have HO2 := Lib.hid (hO.below hb1)
      have hx1 := one_new wr b
      have HC := Lib.hid (hC.alloc (.cells #[.int .u8 (b.toNat : Int)] 5))
      have HB0 := Lib.hid hb0
      have hwb : IntKind.u8.wrap (b.toNat : Int) = (b.toNat : Int) := by have := b.toNat_lt; simp [IntKind.wrap, IntKind.signed, IntKind.bits]; omega
      have hbl : (b.toNat : Int) % 256 = (b.toNat : Int) := by have := b.toNat_lt; omega
      clear hO hC hbk hb1 hb hb0
      go_wp2_with (at_builtin; refine wpList_append_bytes rfl (.tmp 13) (.tmp 17) rfl (n := m + k) (m := 1) (xs := [b]) Hml.out rfl HO2.out rfl rfl hx1 (fun e => by cases e) (by omega) ?_
                   intro oa2 cap2 w2 hO3 hC2 hb2 _)
      have hg := grew_next HB0.out HC.out hC2 hb2
      refine ⟨⟨k + 1, oa2, cap2, hlt, by go_num, ?_, rfl, by rw [Hts.out]; exact hO3, hg.1, hg.2⟩, by simp [intOf]; omega⟩
      rw [HX2.out]
    · have hkn : k = n := by omega
      subst hkn
      have HF : LowG oa (m + k) (bs ++ leb k x) w (.returned (.slice oa1 (m + k) cap1)) wr := by
        have ht : (leb k x).take k = leb k x := List.take_of_length_le (by rw [leb_length]; exact Nat.le_refl _)
        rw [ht] at hO
        exact ⟨oa1, cap1, rfl, hO, hb0, hC⟩
      have HF := Lib.hid HF
      clear hO hC hb0
      go_wp2_with fail
      go_ret
      exact HF.out
/-- while body runs: the list, the page's box, another box -/
structure BG (w0 : World) (p : PP) (ia : Option Addr) (ic : Nat) (da : Option Addr) (dc : Nat) (t : Nat) (o : Obj) (bs : List UInt8) (oa : Option Addr) (cap : Nat) (w : World) : Prop where
  ob : OB w oa cap bs
  ne : ∀ k, blk oa = some k → w0.heap.size < k ∧ k ≠ t
  db : DB w0 p ia ic da dc w
  row : w.heap[t]? = some o
section
variable {w0 : World} {p : PP} {ia : Option Addr} {ic : Nat} {da : Option Addr} {dc t : Nat} {o : Obj} {bs bs' : List UInt8} {oa oa' : Option Addr} {cap cap' : Nat} {w w' : World}
theorem BG.step (h : BG w0 p ia ic da dc t o bs oa cap w) (hO : OB w' oa' cap' bs') (hb : blk oa' = blk oa ∨ ∃ q, blk oa' = some q ∧ w.heap.size ≤ q) (hC : Chg (fun k => blk oa = some k) w w') : BG w0 p ia ic da dc t o bs' oa' cap' w' := by
  have ht := rlt_of_heapP h.row
  have hd := rlt_of_heapP h.db.box
  refine ⟨hO, fun k hk => ?_, ?_, (hC.block t ht (fun e => (h.ne t e).2 rfl)).trans h.row⟩
  · rcases hb with hb | ⟨q, hb, hq⟩
    · exact h.ne k (hb ▸ hk)
    · rw [hb] at hk; cases hk; exact ⟨by omega, by omega⟩
  · refine ⟨(hC.block _ hd (fun e => by have := (h.ne _ e).1; omega)).trans h.db.box, h.db.bel.trans (hC.below h.db.bel.size (fun k e => by have := (h.ne _ e).1; omega))⟩
theorem BG.below (h : BG w0 p ia ic da dc t o bs oa cap w) (hb : Below w.heap.size w w') : BG w0 p ia ic da dc t o bs oa cap w' :=
  ⟨h.ob.below hb, h.ne, h.db.below hb, (hb.block _ (rlt_of_heapP h.row)).trans h.row⟩
/-- another box -/
theorem BG.box (h : BG w0 p ia ic da dc t o bs oa cap w) {t2 : Nat} {o2 : Obj} (hr : w.heap[t2]? = some o2) (hn : ∀ k, blk oa = some k → k ≠ t2) : BG w0 p ia ic da dc t2 o2 bs oa cap w :=
  ⟨h.ob, fun k hk => ⟨(h.ne k hk).1, hn k hk⟩, h.db, hr⟩
end
end Go.Proofs.Ytkjgncmbhkhbnaa
namespace Go.Proofs.Ytkjgncmbhkhbnaa
open Go.RowKit
set_option linter.unusedVariables false
set_option maxRecDepth 100000

theorem bg_start (w : World) (p : PP) (ia : Option Addr) (ic : Nat) (da : Option Addr) (dc : Nat) (k1 l1 : UInt8) :
    BG w p ia ic da dc w.heap.size (.cells #[.int .i64 p.kind, .int .i64 p.level, .slice ia p.items.length ic, .slice da p.data.length dc, .int .i64 p.next] 27) [k1, l1] (some ⟨w.heap.size + 1, 0, none⟩) 2
      ((w.alloc (.cells #[.int .i64 p.kind, .int .i64 p.level, .slice ia p.items.length ic, .slice da p.data.length dc, .int .i64 p.next] 27)).alloc (.cells #[.int .u8 (k1.toNat : Int), .int .u8 (l1.toNat : Int)] 5)) := by
  have hD := DB.start w p ia ic da dc
  have hs : (w.alloc (.cells #[.int .i64 p.kind, .int .i64 p.level, .slice ia p.items.length ic, .slice da p.data.length dc, .int .i64 p.next] 27)).heap.size = w.heap.size + 1 := by simp
  have hO := OB.made (w.alloc (.cells #[.int .i64 p.kind, .int .i64 p.level, .slice ia p.items.length ic, .slice da p.data.length dc, .int .i64 p.next] 27)) [k1, l1] (by show 2 ≤ maxLen; decide)
  rw [hs] at hO
  have hD2 := hD.below (one_below _ (.cells #[.int .u8 (k1.toNat : Int), .int .u8 (l1.toNat : Int)] 5))
  exact ⟨hO, fun k hk => (by rw [blk_some] at hk; cases hk; exact ⟨Nat.lt_succ_self _, Nat.succ_ne_self _⟩), hD2, hD2.box⟩
theorem BG.fin {w0 : World} {p : PP} {ia : Option Addr} {ic : Nat} {da : Option Addr} {dc t : Nat} {o : Obj} {bs : List UInt8} {oa : Option Addr} {cap : Nat} {w : World} (h : BG w0 p ia ic da dc t o bs oa cap w) {m : Nat} {cs : List UInt8} (e : bs = cs) (hm : cs.length = m) :
    LowB w0.heap.size m cs w0 (.returned (.slice oa m cap)) w := by
  subst e
  exact ⟨oa, cap, rfl, ⟨h.ob, hm, fun k hk => Nat.le_of_lt (h.ne k hk).1⟩, h.db.bel⟩
/-- j items are written -/
def RelBd (w0 : World) (p : PP) (ia : Option Addr) (ic : Nat) (da : Option Addr) (dc : Nat) (hd : List UInt8) (o i : Value) (wr : World) : Prop :=
  ∃ (j : Nat) (oa : Option Addr) (oc : Nat), j ≤ p.items.length ∧ i = .int .i64 j ∧ o = .slice oa (15 + (itemsB p.kind (p.items.take j)).length) oc ∧
    BG w0 p ia ic da dc w0.heap.size (.cells #[.int .i64 p.kind, .int .i64 p.level, .slice ia p.items.length ic, .slice da p.data.length dc, .int .i64 p.next] 27) (hd ++ itemsB p.kind (p.items.take j)) oa oc wr
theorem relBd_next {w0 : World} {p : PP} {ia : Option Addr} {ic : Nat} {da : Option Addr} {dc : Nat} {hd : List UInt8} {j : Nat} {x : PI} (hx : p.items[j]? = some x) {wr : World} {oa : Option Addr} {oc t : Nat} {o : Obj} {bs : List UInt8} (hD : BG w0 p ia ic da dc t o bs oa oc wr) (hb : bs = hd ++ itemsB p.kind (p.items.take j) ++ itemB p.kind x) {m : Nat} (hm : m = 15 + (itemsB p.kind (p.items.take j)).length + (itemB p.kind x).length) {i : Value} (hi : i = .int .i64 ((j + 1 : Nat) : Int)) :
    RelBd w0 p ia ic da dc hd (.slice oa m oc) i wr := by
  subst hb
  subst hi
  refine ⟨j + 1, oa, oc, (List.getElem?_eq_some_iff.1 hx).1, rfl, ?_, ?_⟩
  · rw [itemsB_snoc hx, List.length_append, hm, Nat.add_assoc]
  · rw [itemsB_snoc hx, ← List.append_assoc]
    exact hD.box hD.db.box (fun k hk e => absurd (hD.ne k hk).1 (by omega))
set_option maxHeartbeats 2000000 in
theorem dBody_blob (no gen : Nat) (hno : no ≤ 65536) (hgen : gen ≤ 1099511627776) (level : Int) (items : List PI) (data : List UInt8) (next : Int) (ia : Option Addr) (ic : Nat) (da : Option Addr) (dc : Nat) (w : World) (hp : PgAt w.heap.size w ⟨3, level, items, data, next⟩ ia ic da dc) (hr : RightP ⟨3, level, items, data, next⟩) :
    Calls Try.prog 52 #[.int .i64 (no : Int), .int .i64 (gen : Int), .agg #[.int .i64 3, .int .i64 level, .slice ia items.length ic, .slice da data.length dc, .int .i64 next]] w (LowB w.heap.size (pbody no gen ⟨3, level, items, data, next⟩).length (pbody no gen ⟨3, level, items, data, next⟩) w) := by
  have HP := Lib.hid hp
  obtain ⟨hitems, hd1, hd2⟩ := hr.blob rfl
  have hlv := hr.level
  have hnx := hr.next
  simp only at hitems hd1 hd2 hlv hnx
  obtain ⟨m, hm⟩ : ∃ m, data.length = m := ⟨_, rfl⟩
  subst hitems
  obtain ⟨lv, rfl⟩ := Int.eq_ofNat_of_zero_le hlv.1
  obtain ⟨nx, rfl⟩ := Int.eq_ofNat_of_zero_le hnx.1
  have HD := Lib.hid (bg_start w ⟨3, lv, [], data, nx⟩ ia ic da dc (UInt8.ofNat (3 % 256)) (UInt8.ofNat (lv % 256)))
  simp only [] at HD
  rw [hm] at HD hd1 hd2 ⊢
  simp only [List.length_nil] at HD ⊢
  have HM := Lib.hid hm
  have hb1 : IntKind.u8.wrap 3 = (((UInt8.ofNat (3 % 256)).toNat : Nat) : Int) := by decide
  have hb2 : IntKind.u8.wrap (lv : Int) = (((UInt8.ofNat (lv % 256)).toNat : Nat) : Int) := by rw [u8_mod]; rfl
  have hnl : nx < 9223372036854775808 := by omega
  have HPH := Lib.hid (show pheadB no gen ⟨3, lv, [], data, nx⟩ = UInt8.ofNat (3 % 256) :: UInt8.ofNat (lv % 256) :: (leb 4 no ++ leb 8 gen) from rfl)
  generalize UInt8.ofNat (3 % 256) = k1 at *
  generalize UInt8.ofNat (lv % 256) = l1 at *
  have HBD := Lib.hid (show pbody no gen ⟨3, lv, [], data, nx⟩ = [k1, l1] ++ leb 4 no ++ leb 8 gen ++ leb 2 m ++ leb 4 nx ++ data by
    unfold pbody ptailB
    rw [if_pos rfl, HPH.out]
    simp only
    rw [HM.out, Int.toNat_natCast]; simp)
  have HLL := Lib.hid (show (pbody no gen ⟨3, lv, [], data, nx⟩).length = 2 + 4 + 8 + 2 + 4 + m by rw [HBD.out]; simp only [List.length_append, List.length_cons, List.length_nil, leb_length, HM.out])
  clear hp hr hm hlv hnx HPH
  rw [HLL.out]
  have c := cells5 (DB.start w ⟨3, lv, [], data, nx⟩ ia ic da dc).box
  obtain ⟨c0, c1, c2, c3, c4⟩ := c
  simp only [] at c0 c1 c2 c3 c4
  rw [HM.out] at c0 c1 c2 c3 c4
  simp only [List.length_nil] at c0 c1 c2 c3 c4
  go_enter Try.func52, Try.ntmps52
  go_wp2_with fail
  have hD := HD.out
  generalize World.alloc (World.alloc w _) _ = w1 at hD ⊢
  refine (lowG _ _ 2 _ no 4 (by omega) (by decide) (by decide) w1 rfl hD.ob).mono ?_
  rintro _ w2 ⟨oa2, oc2, rfl, hO2, hn2, hC2⟩
  replace hD := hD.step hO2 hn2 hC2
  clear c0 c1 c2 c3 c4 hO2 hn2 hC2
  go_wp2_with fail
  refine (lowG _ _ 6 _ gen 8 (by omega) (by decide) (by decide) w2 (by simp [leb_length]) hD.ob).mono ?_
  rintro _ w3 ⟨oa3, oc3, rfl, hO3, hn3, hC3⟩
  replace hD := hD.step hO3 hn3 hC3
  clear hO3 hn3 hC3
  obtain ⟨c0, c1, c2, c3, c4⟩ := cells5 hD.db.box
  simp only [] at c0 c1 c2 c3 c4
  rw [HM.out] at c3
  go_wp2_with fail
  refine (lowG _ _ 14 _ m 2 (by omega) (by decide) (by decide) w3 (by simp [leb_length]) hD.ob).mono ?_
  rintro _ w4 ⟨oa4, oc4, rfl, hO4, hn4, hC4⟩
  replace hD := hD.step hO4 hn4 hC4
  clear hO4 hn4 hC4 c0 c1 c2 c3 c4
  obtain ⟨c0, c1, c2, c3, c4⟩ := cells5 hD.db.box
  simp only [] at c0 c1 c2 c3 c4
  rw [HM.out] at c3
  go_wp2_with fail
  refine (lowG _ _ 16 _ nx 4 hnl (by decide) (by decide) w4 (by simp [leb_length]) hD.ob).mono ?_
  rintro _ w5 ⟨oa5, oc5, rfl, hO5, hn5, hC5⟩
  replace hD := hD.step hO5 hn5 hC5
  clear hO5 hn5 hC5 c0 c1 c2 c3 c4
  obtain ⟨c0, c1, c2, c3, c4⟩ := cells5 hD.db.box
  simp only [] at c0 c1 c2 c3 c4
  rw [HM.out] at c3
  have hnw := HP.out.data.below hD.db.bel
  have hroom : 20 + m ≤ 140737488355328 := by omega
  have HD5 := Lib.hid hD
  clear hD
  go_wp2_with (at_builtin; refine wpList_append_bytes rfl (.tmp 35) (.tmp 37) rfl (n := 20) (m := m) (xs := data) ?_ rfl HD5.out.ob HM.out.symm rfl hnw.1 hnw.2.2.2 hroom ?_; simp [leb_length]; intro oa6 cap6 w6 hO6 hC6 hb6 _)
  go_ret
  exact ((HD5.out.step hO6 (hb6.imp id (fun h => ⟨_, h, Nat.le_refl _⟩)) hC6).fin HBD.out.symm (by rw [HLL.out]))
end Go.Proofs.Ytkjgncmbhkhbnaa
